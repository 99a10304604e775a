/- A part of the proof. -/
import Derived.Test.YtklmcfpgdfibnaaLeHpL
namespace Go.Proofs.Ytklmcfpgdfibnaa.P
open Go Go.Proofs.Ytklmcfpgdfibnaa Go.Proofs.Ytklmcfpgdfibnaa.Eng
set_option linter.unusedVariables false
set_option maxHeartbeats 4000000
set_option linter.unusedVariables false
set_option linter.unusedSimpArgs false
attribute [local irreducible] prP gP gE gF AJ ixW ldc ldg ldl stc stg scW mkW apW A6 cl2 BF CM CB
variable {w0:World}
theorem mG {os:List AE} {l:List Int} {i:Nat} (hi:i<l.length):((l.take (i+1)).map (AA os)).filter (fun x=>decide (0≤x))=((l.take i).map (AA os)).filter (fun x=>decide (0≤x))++(if 0≤AA os (gI l i) then [AA os (gI l i)] else []):=by
 rw [List.take_succ_eq_append_getElem hi,List.map_append,List.filter_append,EN hi]
 congr 1
 by_cases h:0≤AA os (gI l i) <;> simp [h]
theorem L7 {os:List AE} {b c d:List T} {k:Nat} {K:J2} (hol:os.length=8) (hof: ∀o∈os,OF o) (hk:k<8) (h:K [] [tI (BE os k)]):cl2 ⟨Try.prog,w0⟩ 170 DA.sg [I k] [tR tO os,b,c,d] K:=by
 have hkl:k<os.length:=by omega
 have ho:=hof _ (KF hkl)
 refine DA.cl2 ?_
 unfold DA.txt
 simp only [AN,AV,AK,AM,AU,AH,AL,AW,AO,AR,AS,AQ,AT,AP,BQ,BU,BY,BX,BZ,BW,BT,A7,BA,BB,A9,BC,A8]
 refine BK (fun i=>[I k,iv i]) (fun i=>[tI ((((ob os k).field.take i).map (AA os)).filter fun x=>decide (0≤x))]) 3 (fun _=>True) rfl rfl trivial (fun R i hi hP hR=> ?_)
 have hln:=List.length_filter_le (fun x=>decide (0≤x)) (((ob os k).field.take i).map (AA os))
 have hl2:(((ob os k).field.take i).map (AA os)).length≤i:=by simp;omega
 simp only [AN,AV,AK,AM,AU,AH,AL,AW,AO,AR,AS,AQ,AT,AP,BQ,BU,BY,BX,BZ,BW,BT,A7,BA,BB,A9,BC,A8]
 refine AG hkl (QD (f:=tO) (i:=k) hkl (by decide) rfl ?_)
 rw [KY hkl,AH,ho.len]
 refine A4 (AY (fun hlt=> ?_) fun hge=> ?_)
 ·have hlt:i<(ob os k).field.length:=by have:=ho.len;omega
  replace hR:=hR (by omega) trivial
  rw [mG hlt] at hR
  refine BV (AG hkl (QD (f:=tO) (i:=k) hkl (by decide) rfl ?_))
  rw [KY hkl,AH]
  refine AG hlt (QO hkl hlt (CL (ho.fld _ (ER hlt)) (by omega) (O7 (AY (fun hs=> ?_) fun hs=> ?_))))
  ·rw [if_pos hs, ←HV] at hR
   refine GN rfl (by omega) (BD (by omega) ?_)
   exact hR
  ·rw [if_neg hs,List.append_nil] at hR
   exact BD (by omega) hR
 ·have:i=3:=by omega
  subst this
  have e:(ob os k).field.take 3=(ob os k).field:=List.take_of_length_le (by rw [ho.len];omega)
  rw [e];exact h
theorem gL {l:List Int} {i:Nat} {v:Int} {K:List T→Prop} (hi:i<l.length) (h:K (tI (l.set i v))):stc (tI l) [] (AB (iv i)*1) (I v) K:=wW hi h
structure QN (os:List AE) (c m:Int) (cs col:List Int) (s:Nat) (q:Nat×List Int×List Int):Prop where
 j:q.1≤(BE os s).length
 len:q.2.1.length=8∧q.2.2.length=8
 f: ∀i,i<8→F64 (gI q.2.1 i)
 IX: ∀k,k<8→gI col k=c∨k=s→gI q.2.2 k=c
 only: ∀k,k<8→gI q.2.2 k≠c→gI q.2.2 k=gI col k
 clo: ∀k,k<8→k≠s→gI q.2.2 k=c→gI col k≠c→Reach os s k∧ ∀j∈BE os k,gI q.2.2 j.toNat=c
 done: ∀x∈(BE os s).take q.1,gI q.2.2 x.toNat=c
 cnt: ∀i,i<8→gI q.2.1 i=w64 (gI cs i+m*(S os (isC q.2.2 c) i-S os (isC col c) i-(((BE os s).drop q.1).count (i:Int):Nat)))
theorem QN.start {os:List AE} {c m:Int} {cs col:List Int} {s:Nat} (hs:s<8) (h1:cs.length=8) (h2:col.length=8) (hf: ∀i,i<8→F64 (gI cs i)) (h0:gI col s≠c):QN os c m cs col s (0,cs,col.set s c):=by
 refine ⟨Nat.zero_le _,⟨h1,by simpa using h2⟩,hf,fun k hk h=> ?_,fun k hk h=> ?_,fun k hk hne h3 h4=> ?_,fun x hx=>by simp at hx,fun i hi=> ?_⟩
 ·simp only;rw [ET (by omega)];split
  ·rfl
  ·rename_i hh;exact h.resolve_right hh
 ·simp only at h ⊢;rw [ET (by omega)] at h ⊢;split
  ·rename_i hh;rw [if_pos hh] at h;exact absurd rfl h
  ·rfl
 ·simp only at h3;rw [ET (by omega),if_neg hne] at h3;exact absurd h3 h4
 ·simp only
  have e:=m7 (os:=os) (P:=isC col c) (Q:=isC (col.set s c) c) (i:=i) hs (by simp [isC,h0]) (by rw [PC (by omega)];simp) fun k hk hne=>by rw [PC (by omega)];simp [hne]
  rw [e,List.drop_zero]
  have:(((BE os s).count (i:Int):Nat):Int)=E os s i:=rfl
  rw [this]
  have e2:S os (isC col c) i+E os s i-S os (isC col c) i-E os s i=0:=by omega
  rw [e2,Int.mul_zero,Int.add_zero,H4 (hf i hi)]
theorem QN.step {os:List AE} {c m:Int} {cs col:List Int} {s:Nat} {j:Nat} {cs1 col1 cs2 col2:List Int} (hs:s<8) (h:QN os c m cs col s (j,cs1,col1)) (hj:j<(BE os s).length) (p:LZ os c m (cs1.set (gI (BE os s) j).toNat (w64 (gI cs1 (gI (BE os s) j).toNat+m))) col1 cs2 col2 (gI (BE os s) j).toNat):QN os c m cs col s (j+1,cs2,col2):=by
 have hx:=B5 (ER hj)
 have l1:=h.len
 refine ⟨by simp only;omega,p.len,p.f,fun k hk hh=>p.IX k hk (h.IX k hk hh),fun k hk hne=> ?_,fun k hk hne h3 h4=> ?_,fun x hx=> ?_,fun i hi=> ?_⟩
 ·have e:=p.only k hk hne
  simp only at hne ⊢
  rw [e]
  exact h.only k hk (by simp only;rw [←e];exact hne)
 ·by_cases h5:gI col1 k=c
  ·obtain ⟨g1,g2⟩:=h.clo k hk hne h5 h4
   exact ⟨g1,fun y hy=>p.IX _ (B5 hy).2.1 (g2 y hy)⟩
  ·obtain ⟨g1,g2⟩:=p.clo k hk h3 h5
   exact ⟨Reach.trans (.step .refl (ER hj)) g1,g2⟩
 ·simp only at hx ⊢
  rw [List.take_succ_eq_append_getElem hj,List.mem_append,List.mem_singleton] at hx
  rcases hx with hx | rfl
  ·exact p.IX _ (B5 (List.mem_of_mem_take hx)).2.1 (h.done x hx)
  ·rw [EN hj];exact p.got
 ·have e1:=p.cnt i hi
  have e2:=h.cnt i hi
  simp only at e1 e2 ⊢
  rw [ET (by have:=h.len.1;simp only at this;omega)] at e1
  have e3:(((BE os s).drop j).count (i:Int):Int)=(if i=(gI (BE os s) j).toNat then 1 else 0)+(((BE os s).drop (j+1)).count (i:Int):Int):=by
   rw [drop_cons hj,List.count_cons]
   by_cases hh:i=(gI (BE os s) j).toNat
   ·have:(gI (BE os s) j==(i:Int))=true:=by simp;omega
    rw [if_pos hh,this];simp;omega
   ·have:(gI (BE os s) j==(i:Int))=false:=by simp;omega
    rw [if_neg hh,this];simp
  rw [e1]
  by_cases hh:i=(gI (BE os s) j).toNat
  ·rw [if_pos hh, ←hh,e2,LP,Int.add_assoc,LP]
   rw [if_pos hh] at e3
   congr 1
   rw [e3]
   generalize S os (isC col2 c) i=a
   generalize S os (isC col1 c) i=b
   generalize S os (isC col c) i=d
   generalize ((List.drop (j+1) (BE os s)).count (i:Int):Int)=e
   simp only [Int.mul_sub,Int.mul_add,Int.mul_one];omega
  ·rw [if_neg hh,e2,LP]
   rw [if_neg hh] at e3
   congr 1
   rw [e3]
   generalize S os (isC col2 c) i=a
   generalize S os (isC col1 c) i=b
   generalize S os (isC col c) i=d
   generalize ((List.drop (j+1) (BE os s)).count (i:Int):Int)=e
   simp only [Int.mul_sub,Int.mul_add,Int.mul_zero];omega
theorem QN.stop {os:List AE} {c m:Int} {cs col:List Int} {s:Nat} {cs1 col1:List Int} (hs:s<8) (h:QN os c m cs col s ((BE os s).length,cs1,col1)):LZ os c m cs col cs1 col1 s:=by
 refine ⟨h.len,h.f,fun k hk hh=>h.IX k hk (.inl hh),h.only,h.IX s hs (.inr rfl),fun k hk h3 h4=> ?_,fun i hi=> ?_⟩
 ·by_cases hks:k=s
  ·subst hks
   exact ⟨.refl,fun y hy=>h.done y (by simp only;rw [List.take_length];exact hy)⟩
  ·exact h.clo k hk hks h3 h4
 ·have:=h.cnt i hi
  simp only [List.drop_length,List.count_nil] at this
  rw [this];simp
end Go.Proofs.Ytklmcfpgdfibnaa.P
namespace Go.Proofs.Ytklmcfpgdfibnaa.P
open Go Go.Proofs.Ytklmcfpgdfibnaa Go.Proofs.Ytklmcfpgdfibnaa.Eng
set_option linter.unusedVariables false
set_option maxHeartbeats 4000000
set_option linter.unusedVariables false
set_option linter.unusedSimpArgs false
attribute [local irreducible] prP gP gE gF AJ ixW ldc ldg ldl stc stg scW mkW apW A6 cl2 BF CM CB
variable {w0:World}
def W (os:List AE):List Int→Nat→Int
 | [],_=>0
 | x::l,i=>E os x.toNat i+W os l i
theorem uG (os:List AE) (a b:List Int) (i:Nat):W os (a++b) i=W os a i+W os b i:=by
 induction a with
 | nil=>simp [W]
 | cons x a ih=>simp only [List.cons_append,W,ih];omega
structure Vw (row:List Int) (off:Nat) (todo:List Int):Prop where
 bd:off+todo.length≤row.length
 vw:(row.drop off).take todo.length=todo
theorem Vw.get {row todo:List Int} {off j:Nat} (h:Vw row off todo) (hj:j<todo.length):gI row (off+j)=gI todo j:=by
 have e:=congrArg (fun l=>l[j]?) h.vw
 simp only [List.getElem?_take,hj,if_true,List.getElem?_drop] at e
 unfold gI
 rw [List.getD_eq_getElem?_getD,List.getD_eq_getElem?_getD,e]
theorem Vw.pop {row todo:List Int} {off:Nat} (h:Vw row off todo):Vw row off todo.dropLast:=by
 refine ⟨by have:=h.bd;rw [List.length_dropLast];omega, ?_⟩
 have e:=congrArg List.dropLast h.vw
 rw [List.dropLast_eq_take,List.take_take] at e
 rw [List.length_dropLast, ←e,List.length_take,List.length_drop]
 have:=h.bd
 congr 1;omega
theorem Vw.new (todo:List Int):Vw todo 0 todo:=⟨by omega,by simp⟩
theorem YQ {todo:List Int} (h:todo.length>0):todo=todo.dropLast++[gI todo (todo.length-1)]:=by
 have hne:todo≠[]:=fun he=>by rw [he] at h;simp at h
 have:=(List.dropLast_concat_getLast hne).symm
 rw [List.getLast_eq_getElem hne,EN (by omega)] at this
 exact this
structure OR (os:List AE) (c m:Int) (cs0 col0:List Int) (s:Nat) (todo cs col:List Int):Prop where
 len:cs.length=8∧col.length=8
 f: ∀i,i<8→F64 (gI cs i)
 IX: ∀k,k<8→gI col0 k=c→gI col k=c
 only: ∀k,k<8→gI col k≠c→gI col k=gI col0 k
 got:gI col s=c
 td: ∀x∈todo,0≤x∧x.toNat<8∧gI col x.toNat=c∧gI col0 x.toNat≠c∧Reach os s x.toNat
 nd:todo.Nodup
 clo: ∀k,k<8→gI col k=c→gI col0 k≠c→Reach os s k∧((k:Int)∈todo∨ ∀j∈BE os k,gI col j.toNat=c)
 cnt: ∀i,i<8→gI cs i=w64 (gI cs0 i+m*(S os (isC col c) i-S os (isC col0 c) i-W os todo i))
 sz:todo.length+J3 col c≤8
structure OD (os:List AE) (c m:Int) (cs0 col0:List Int) (s:Nat) (k j:Nat) (todo cs col:List Int):Prop where
 len:cs.length=8∧col.length=8
 f: ∀i,i<8→F64 (gI cs i)
 IX: ∀k,k<8→gI col0 k=c→gI col k=c
 only: ∀k,k<8→gI col k≠c→gI col k=gI col0 k
 got:gI col s=c
 td: ∀x∈todo,0≤x∧x.toNat<8∧gI col x.toNat=c∧gI col0 x.toNat≠c∧Reach os s x.toNat
 nd:todo.Nodup
 me:k<8∧Reach os s k
 clo: ∀x,x<8→x≠k→gI col x=c→gI col0 x≠c→Reach os s x∧((x:Int)∈todo∨ ∀j∈BE os x,gI col j.toNat=c)
 done: ∀x∈(BE os k).take j,gI col x.toNat=c
 cnt: ∀i,i<8→gI cs i=w64 (gI cs0 i+m*(S os (isC col c) i-S os (isC col0 c) i-W os todo i-(((BE os k).drop j).count (i:Int):Nat)))
 sz:todo.length+J3 col c≤8
section
variable {os:List AE} {c m:Int} {cs0 col0 cs col todo:List Int} {s k j:Nat}
theorem OR.start (hs:s<8) (h1:cs0.length=8) (h2:col0.length=8) (hf: ∀i,i<8→F64 (gI cs0 i)) (h0:gI col0 s≠c):OR os c m cs0 col0 s [(s:Int)] cs0 (col0.set s c):=by
 have hkeep: ∀k,k<8→gI col0 k=c→gI (col0.set s c) k=c:=fun k hk h=>by rw [ET (by omega)];split <;> first | rfl | exact h
 have hgot:gI (col0.set s c) s=c:=by rw [ET (by omega)];simp
 refine ⟨⟨h1,by simpa using h2⟩,hf,hkeep,fun k hk h=> ?_,hgot,fun x hx=> ?_,by simp,fun k hk h3 h4=> ?_,fun i hi=> ?_, ?_⟩
 ·rw [ET (by omega)] at h ⊢;split
  ·rename_i hh;rw [if_pos hh] at h;exact absurd rfl h
  ·rfl
 ·have hx:x=(s:Int):=by simpa using hx
  subst hx
  rw [Int.toNat_natCast]
  exact ⟨by omega,hs,hgot,h0, .refl⟩
 ·rw [ET (by omega)] at h3
  by_cases hh:k=s
  ·subst hh;exact ⟨.refl, .inl (by simp)⟩
  ·rw [if_neg hh] at h3;exact absurd h3 h4
 ·have e:=m7 (os:=os) (P:=isC col0 c) (Q:=isC (col0.set s c) c) (i:=i) hs (by simp [isC,h0]) (by rw [PC (by omega)];simp) fun k hk hne=>by rw [PC (by omega)];simp [hne]
  simp only [W,Int.toNat_natCast]
  rw [e]
  have e2:S os (isC col0 c) i+E os s i-S os (isC col0 c) i-(E os s i+0)=0:=by omega
  rw [e2,Int.mul_zero,Int.add_zero,H4 (hf i hi)]
 ·have:=QZ hs h0 hgot hkeep
  have:=m1 col0 c
  simp only [List.length_singleton];omega
theorem OR.stop (h:OR os c m cs0 col0 s [] cs col):LZ os c m cs0 col0 cs col s:=
 ⟨h.len,h.f,h.IX,h.only,h.got,fun k hk h3 h4=>⟨(h.clo k hk h3 h4).1,(h.clo k hk h3 h4).2.resolve_left (by simp)⟩,fun i hi=>by have:=h.cnt i hi;simp only [W,Int.sub_zero] at this;exact this⟩
theorem OR.pop (h:OR os c m cs0 col0 s todo cs col) (hl:todo.length>0) (hk:(gI todo (todo.length-1)).toNat=k):gI todo (todo.length-1)=(k:Int)∧k<8∧OD os c m cs0 col0 s k 0 todo.dropLast cs col:=by
 have e:=YQ hl
 have hm:gI todo (todo.length-1)∈todo:=ER (by omega)
 obtain ⟨t1,t2,t3,t4,t5⟩:=h.td _ hm
 rw [hk] at t2 t3 t4 t5
 have e2:gI todo (todo.length-1)=(k:Int):=by omega
 rw [e2] at e
 have hnd:=h.nd
 rw [e,List.nodup_append] at hnd
 refine ⟨e2,t2,h.len,h.f,h.IX,h.only,h.got,fun x hx=>h.td x (List.dropLast_subset _ hx),hnd.1,⟨t2,t5⟩,fun x hx hne h3 h4=> ?_,by simp,fun i hi=> ?_, ?_⟩
 ·obtain ⟨g1,g2⟩:=h.clo x hx h3 h4
  refine ⟨g1,g2.imp_left fun g=> ?_⟩
  rw [e,List.mem_append,List.mem_singleton] at g
  exact g.resolve_right (by omega)
 ·rw [h.cnt i hi]
  have:W os todo i=W os todo.dropLast i+E os k i:=by
   conv=>lhs;rw [e]
   rw [uG];simp [W]
  rw [this,List.drop_zero]
  congr 3
  have e3:(((BE os k).count (i:Int):Nat):Int)=E os k i:=rfl
  rw [e3];omega
 ·have:=h.sz
  rw [List.length_dropLast];omega
theorem OD.stop (h:OD os c m cs0 col0 s k (BE os k).length todo cs col):OR os c m cs0 col0 s todo cs col:=by
 refine ⟨h.len,h.f,h.IX,h.only,h.got,h.td,h.nd,fun x hx h3 h4=> ?_,fun i hi=> ?_,h.sz⟩
 ·by_cases hk:x=k
  ·subst hk
   exact ⟨h.me.2, .inr fun y hy=>h.done y (by rw [List.take_length];exact hy)⟩
  ·exact h.clo x hx hk h3 h4
 ·have:=h.cnt i hi
  simp only [List.drop_length,List.count_nil] at this
  rw [this];simp
theorem bL {l:List Int} {j i:Nat} {x:Nat} (hj:j<l.length) (hx:gI l j=(x:Int)):((l.drop j).count (i:Int):Int)=(if i=x then 1 else 0)+((l.drop (j+1)).count (i:Int):Int):=by
 rw [drop_cons hj,List.count_cons,hx]
 by_cases hh:i=x
 ·have:((x:Int)==(i:Int))=true:=by simp;omega
  rw [if_pos hh,this];simp;omega
 ·have:((x:Int)==(i:Int))=false:=by simp;omega
  rw [if_neg hh,this];simp
theorem OD.old (h:OD os c m cs0 col0 s k j todo cs col) (hj:j<(BE os k).length) {x:Nat} (hx:gI (BE os k) j=(x:Int)) (hc:gI col x=c):OD os c m cs0 col0 s k (j+1) todo (cs.set x (w64 (gI cs x+m))) col:=by
 have x8:x<8:=by have:=(B5 (ER hj)).2.1;rw [hx] at this;simpa using this
 have hl:=h.len
 refine ⟨⟨by simpa using hl.1,hl.2⟩,fun i hi=> ?_,h.IX,h.only,h.got,h.td,h.nd,h.me,h.clo,fun y hy=> ?_,fun i hi=> ?_,h.sz⟩
 ·rw [ET (by omega)];split
  ·exact oF _
  ·exact h.f i hi
 ·rw [List.take_succ_eq_append_getElem hj,List.mem_append,List.mem_singleton] at hy
  rcases hy with hy | rfl
  ·exact h.done y hy
  ·rw [EN hj,hx,Int.toNat_natCast];exact hc
 ·rw [ET (by omega)]
  have e2:=h.cnt i hi
  have e3:=bL (i:=i) hj hx
  by_cases hh:i=x
  ·rw [if_pos hh, ←hh,e2,LP]
   rw [if_pos hh] at e3
   congr 1
   rw [e3]
   generalize S os (isC col c) i=a
   generalize S os (isC col0 c) i=b
   generalize W os todo i=d
   generalize ((List.drop (j+1) (BE os k)).count (i:Int):Int)=e
   simp only [Int.mul_sub,Int.mul_add,Int.mul_one];omega
  ·rw [if_neg hh,e2]
   rw [if_neg hh] at e3
   rw [e3,Int.zero_add]
theorem OD.new (h:OD os c m cs0 col0 s k j todo cs col) (hj:j<(BE os k).length) {x:Nat} (hx:gI (BE os k) j=(x:Int)) (hc:gI col x≠c):OD os c m cs0 col0 s k (j+1) (todo++[(x:Int)]) (cs.set x (w64 (gI cs x+m))) (col.set x c):=by
 have x8:x<8:=by have:=(B5 (ER hj)).2.1;rw [hx] at this;simpa using this
 have hl:=h.len
 have hgot:gI (col.set x c) x=c:=by rw [ET (by omega)];simp
 have kp: ∀y,gI col y=c→gI (col.set x c) y=c:=fun y hy=>by rw [ET (by omega)];split <;> first | rfl | exact hy
 have hrx:Reach os s x:=by have:=Reach.step h.me.2 (ER hj);rw [hx] at this;simpa using this
 have h0x:gI col0 x≠c:=fun he=>hc (h.IX x x8 he)
 refine ⟨⟨by simpa using hl.1,by simpa using hl.2⟩,fun i hi=> ?_,fun y hy he=>kp y (h.IX y hy he),fun y hy he=> ?_,kp s h.got,fun y hy=> ?_, ?_,h.me,fun y hy hne h3 h4=> ?_,fun y hy=> ?_,fun i hi=> ?_, ?_⟩
 ·rw [ET (by omega)];split
  ·exact oF _
  ·exact h.f i hi
 ·rw [ET (by omega)] at he ⊢
  split
  ·rename_i hh;rw [if_pos hh] at he;exact absurd rfl he
  ·rename_i hh;rw [if_neg hh] at he;exact h.only y hy he
 ·rw [List.mem_append,List.mem_singleton] at hy
  rcases hy with hy | rfl
  ·obtain ⟨a1,a2,a3,a4,a5⟩:=h.td y hy
   exact ⟨a1,a2,kp _ a3,a4,a5⟩
  ·rw [Int.toNat_natCast]
   exact ⟨by omega,x8,hgot,h0x,hrx⟩
 ·rw [List.nodup_append]
  refine ⟨h.nd,by simp,fun a ha b hb=> ?_⟩
  have hb:b=(x:Int):=by simpa using hb
  subst hb
  intro he
  subst he
  exact hc (by have:=(h.td _ ha).2.2.1;rwa [Int.toNat_natCast] at this)
 ·by_cases hyx:y=x
  ·subst hyx;exact ⟨hrx, .inl (by simp)⟩
  ·rw [ET (by omega),if_neg hyx] at h3
   obtain ⟨g1,g2⟩:=h.clo y hy hne h3 h4
   exact ⟨g1,g2.elim (fun g=> .inl (List.mem_append_left _ g)) fun g=> .inr fun z hz=>kp _ (g z hz)⟩
 ·rw [List.take_succ_eq_append_getElem hj,List.mem_append,List.mem_singleton] at hy
  rcases hy with hy | rfl
  ·exact kp _ (h.done y hy)
  ·rw [EN hj,hx,Int.toNat_natCast];exact hgot
 ·rw [ET (by omega)]
  have e2:=h.cnt i hi
  have e3:=bL (i:=i) hj hx
  have e:=m7 (os:=os) (P:=isC col c) (Q:=isC (col.set x c) c) (i:=i) x8 (by simp [isC,hc]) (by rw [PC (by omega)];simp) fun k hk hne=>by rw [PC (by omega)];simp [hne]
  have ew:W os (todo++[(x:Int)]) i=W os todo i+E os x i:=by rw [uG];simp [W]
  rw [e,ew]
  by_cases hh:i=x
  ·rw [if_pos hh, ←hh,e2,LP]
   rw [if_pos hh] at e3
   congr 1
   rw [e3,hh]
   generalize S os (isC col c) x=a
   generalize S os (isC col0 c) x=b
   generalize W os todo x=d
   generalize E os x x=g
   generalize ((List.drop (j+1) (BE os k)).count (x:Int):Int)=e
   have:a+g-b-(d+g)-e=a-b-d-(1+e)+1:=by omega
   rw [this,Int.mul_add,Int.mul_one];omega
  ·rw [if_neg hh,e2]
   rw [if_neg hh] at e3
   rw [e3]
   congr 3
   omega
 ·have:=QZ (c:=c) x8 hc hgot fun y _ hy=>kp y hy
  have:=h.sz
  simp only [List.length_append,List.length_singleton];omega
end
end Go.Proofs.Ytklmcfpgdfibnaa.P
namespace Go.Proofs.Ytklmcfpgdfibnaa.P
open Go Go.Proofs.Ytklmcfpgdfibnaa Go.Proofs.Ytklmcfpgdfibnaa.Eng
set_option linter.unusedVariables false
set_option maxHeartbeats 4000000
set_option linter.unusedVariables false
set_option linter.unusedSimpArgs false
attribute [local irreducible] prP gP gE gF AJ ixW ldc ldg ldl stc stg scW mkW apW A6 cl2 BF CM CB
variable {w0:World}
theorem PX {a b:List Int} {K:J2} (h1:a.length≤100) (h2:b.length≤100) (h:K [] [tI a,tI b]):cl2 ⟨Try.prog,w0⟩ 168 EH.sg [] [tI a,tI b] K:=by
 refine EH.cl2 ?_
 unfold EH.txt
 rw [List.nil_append,List.nil_append]
 simp only [AN,AV,AK,AM,AU,AH,AL,AW,AO,AR,AS,AQ,AT,AP,BQ,BU,BY,BX,BZ,BW,BT,A7,BA,BB,A9,BC,A8]
 exact GN (OW _) (by first | omega | (simp only [cnt,List.length_nil];omega)) (GN (OW _) (by first | omega | (simp only [cnt,List.length_nil];omega)) h)
theorem TL {os:List AE} {b c d:List T} {cs col:List Int} {id:Int} {K:J2} (hol:os.length=8) (h1:cs.length=8) (h2:col.length=8) (hno:AA os id<0→K [.bool false] []) (hyes:0≤AA os id→K [.bool true] []):cl2 ⟨Try.prog,w0⟩ 169 GJ.sg [I (AA os id)] [tR tO os,b,c,d,tI cs,tI col] K:=by
 refine GJ.cl2 ?_
 unfold GJ.txt
 simp only [AN,AV,AK,AM,AU,AH,AL,AW,AO,AR,AS,AQ,AT,AP,BQ,BU,BY,BX,BZ,BW,BT,A7,BA,BB,A9,BC,A8]
 refine BM ?_
 have e1:(os.length:Int)=8:=by omega
 have e2:(cs.length:Int)=8:=by omega
 have e3:(col.length:Int)=8:=by omega
 by_cases hs:AA os id<0
 ·have:=hno hs
  repeat' (first | refine DB ?_ | refine BH ?_ | refine PW (by first | with_reducible assumption | omega) ?_ | refine VP (by first | with_reducible assumption | omega) ?_ | refine GC (by first | with_reducible assumption | omega) rfl ?_ | refine F7 (by first | with_reducible assumption | omega) rfl ?_ | refine BM ?_)
  all_goals first | exact this | omega
 ·have:=hyes (by omega)
  have hk:=BG (l:=os) (id:=id) (by omega)
  obtain ⟨k,hkk⟩: ∃k,(AA os id).toNat=k:=⟨_,rfl⟩
  have hkI:AA os id=(k:Int):=by omega
  rw [hkk] at hk
  rw [hkI]
  have hkl:k<os.length:=by omega
  repeat' (first | refine KL (v:= .bool true) hkl (by simp [tO,hk.2.2.2.2.1]) ?_ | refine DB ?_ | refine BH ?_ | refine PW (by first | with_reducible assumption | omega) ?_ | refine GC (by first | with_reducible assumption | omega) rfl ?_ | refine BM ?_ | refine AG (by omega) ?_)
  all_goals first | exact this | omega
theorem fV {n i:Nat} (hi:i≤n) {K:Value→Value→Prop} (h:K (iv 0) (iv i)):scW n none (some (.int .i64 i)) K:=oG hi h
theorem VB {os:List AE} {b c' d:List T} {cs col:List Int} {s:Nat} {K:J2} (hol:os.length=8) (hof: ∀o∈os,OF o) (hs:s<8) (h1:cs.length=8) (h2:col.length=8) (hf: ∀i,i<8→F64 (gI cs i)) (h0:gI col s≠0) (h: ∀cs' col',LZ os 0 1 cs col cs' col' s→K [] [tI cs',tI col']):cl2 ⟨Try.prog,w0⟩ 171 EY.sg [I s] [tR tO os,b,c',d,tI cs,tI col] K:=by
 refine EY.cl2 ?_
 unfold EY.txt
 simp only [AN,AV,AK,AM,AU,AH,AL,AW,AO,AR,AS,AQ,AT,AP,BQ,BU,BY,BX,BZ,BW,BT,A7,BA,BB,A9,BC,A8]
 refine AG (by omega) (gL (v:=0) (by omega) ?_)
 refine G7 (α:=List Int×Nat×List Int×List Int×List Int) (fun q=>[iv q.2.2.1.length,iv q.2.1]) (fun q=>[tI q.1,tI q.2.2.2.1,tI q.2.2.2.2]) (fun q=>q.2.2.1.length+2*J3 q.2.2.2.2 0) (fun q=>Vw q.1 q.2.1 q.2.2.1∧OR os 0 1 cs col s q.2.2.1 q.2.2.2.1 q.2.2.2.2) ([(s:Int)],0,[(s:Int)],cs,col.set s 0) rfl rfl ⟨Vw.new _,OR.start hs h1 h2 hf h0⟩ (fun R q hq hR=> ?_)
 obtain ⟨row,off,todo,cs1,col1⟩:=q
 obtain ⟨vw,wk⟩:=hq
 simp only at vw wk
 have hsz:=wk.sz
 have hbd:=vw.bd
 simp only [AN,AV,AK,AM,AU,AH,AL,AW,AO,AR,AS,AQ,AT,AP,BQ,BU,BY,BX,BZ,BW,BT,A7,BA,BB,A9,BC,A8]
 simp only [AX]
 refine KJ (AY (fun hlt=> ?_) fun hge=> ?_)
 ·have hlt:todo.length>0:=by omega
  obtain ⟨k,hk⟩: ∃k,(gI todo (todo.length-1)).toNat=k:=⟨_,rfl⟩
  obtain ⟨e1,k8,wj⟩:=wk.pop hlt hk
  have ev:((todo.length:Int)-1)=((todo.length-1:Nat):Int):=by omega
  refine F8 ⟨by omega,by omega⟩ ?_
  rw [ev]
  refine AG (by omega) ?_
  have eg:=vw.get (j:=todo.length-1) (by omega)
  have el:ldc (tI row) [] (off+AB (iv (todo.length-1))*1)=ldc (tI row) [] (AB (iv (off+(todo.length-1)))*1):=by rw [AX,AX];congr 1;omega
  rw [el]
  refine ldI (by omega) ?_
  rw [eg,e1]
  refine F8 ⟨by omega,by omega⟩ ?_
  rw [ev]
  refine fV (by omega) (L7 hol hof k8 ?_)
  have hkl:=RV hof (k:=k) (by omega)
  refine G7 (α:=Nat×List Int×Nat×List Int×List Int×List Int) (fun q=>[iv q.2.2.2.1.length,iv q.2.2.1,iv q.1]) (fun q=>[tI q.2.1,tI (BE os k),tI q.2.2.2.2.1,tI q.2.2.2.2.2]) (fun q=>(BE os k).length-q.1) (fun q=>q.1≤(BE os k).length∧Vw q.2.1 q.2.2.1 q.2.2.2.1∧OD os 0 1 cs col s k q.1 q.2.2.2.1 q.2.2.2.2.1 q.2.2.2.2.2∧q.2.2.2.1.length+2*J3 q.2.2.2.2.2 0<todo.length+2*J3 col1 0) (0,row,off,todo.dropLast,cs1,col1) ?_ rfl ⟨Nat.zero_le _,vw.pop,wj,by simp only [List.length_dropLast];omega⟩ (fun R2 q hq hR2=> ?_)
  ·simp only [List.length_dropLast,AX,Nat.zero_mul,Nat.add_zero];rfl
  obtain ⟨j,row2,off2,todo2,cs2,col2⟩:=q
  obtain ⟨hj,vw2,wj2,hms⟩:=hq
  simp only at hj vw2 wj2 hms
  have hsz2:=wj2.sz
  have hbd2:=vw2.bd
  have hl2:=wj2.len
  simp only [AN,AV,AK,AM,AU,AH,AL,AW,AO,AR,AS,AQ,AT,AP,BQ,BU,BY,BX,BZ,BW,BT,A7,BA,BB,A9,BC,A8]
  simp only [AX]
  refine A4 (AY (fun hlj=> ?_) fun hgj=> ?_)
  ·have hlj:j<(BE os k).length:=by omega
   obtain ⟨x,hx⟩: ∃x,(gI (BE os k) j).toNat=x:=⟨_,rfl⟩
   obtain ⟨x1,x2,x3,_⟩:=B5 (ER hlj)
   rw [hx] at x2 x3
   have xc:x<cs2.length:=by omega
   have xl:x<col2.length:=by omega
   refine BV (AG hlj (ldI hlj (AG hlj (ldI hlj ?_))))
   rw [x3]
   refine AG xc (ldI xc (I4 (AG xc (gL xc (AG hlj (ldI hlj ?_))))))
   rw [x3]
   refine AG xl (ldI xl (C0 (AY (fun hne=> ?_) fun heq=> ?_)))
   ·refine AG hlj (ldI hlj ?_)
    rw [x3]
    refine AG xl (gL (v:=0) xl (AG hlj (ldI hlj ?_)))
    rw [x3]
    have wn:=wj2.new hlj x3 hne
    have:=QZ (a:=col2) (b:=col2.set x 0) (c:=0) x2 hne (by rw [ET xl];simp) fun y _ hy=>by rw [ET xl];split <;> first | rfl | exact hy
    refine GN rfl (by omega) (BD (by omega) ?_)
    have:=hR2 (j+1,todo2++[(x:Int)],0,todo2++[(x:Int)],_,_) ⟨by simp only;omega,Vw.new _,wn,by simp only [List.length_append,List.length_singleton];omega⟩ (by simp only;omega)
    simp only [Nat.mul_one,RU,vw2.vw]
    have ea:tI todo2++[T.c (I (x:Int))]=tI (todo2++[(x:Int)]):=HV _ _
    rw [ea]
    simp only [AN,AV,AK,AM,AU,AH,AL,AW,AO,AR,AS,AQ,AT,AP,BQ,BU,BY,BX,BZ,BW,BT,A7,BA,BB,A9,BC,A8]
    simp only [AX]
    exact this
   ·have heq:gI col2 x=0:=Decidable.not_not.1 heq
    have wo:=wj2.old hlj x3 heq
    refine BD (by omega) ?_
    have:=hR2 (j+1,row2,off2,todo2,_,_) ⟨by simp only;omega,vw2,wo,hms⟩ (by simp only;omega)
    simp only [AN,AV,AK,AM,AU,AH,AL,AW,AO,AR,AS,AQ,AT,AP,BQ,BU,BY,BX,BZ,BW,BT,A7,BA,BB,A9,BC,A8]
    simp only [AX]
    exact this
  ·have:j=(BE os k).length:=by omega
   subst this
   have:=hR (row2,off2,todo2,cs2,col2) ⟨vw2,wj2.stop⟩ hms
   exact this
 ·have:todo=[]:=List.length_eq_zero_iff.1 (by omega)
  subst this
  exact h _ _ wk.stop
theorem TQ {os:List AE} {b c' d:List T} {cs col:List Int} {id:Int} {K:J2} (hol:os.length=8) (hof: ∀o∈os,OF o) (h1:cs.length=8) (h2:col.length=8) (hf: ∀i,i<8→F64 (gI cs i)) (hno:AA os id<0→K [] [tI cs,tI col]) (h: ∀s:Nat,AA os id=s→s<8→ ∀cs' col',LZ os 1 (-1) cs col cs' col' s→K [] [tI cs',tI col']):cl2 ⟨Try.prog,w0⟩ 156 DY.sg [I (AA os id)] [tR tO os,b,c',d,tI cs,tI col] K:=by
 refine DY.cl2 ?_
 unfold DY.txt
 refine PX (by omega) (by omega) (TL hol h1 h2 (fun hs=> ?_) fun hs=> ?_)
 ·replace hno:=hno hs
  repeat' (first | refine BH ?_ | refine YD ?_ | refine NX rfl ?_ | refine CU ?_ | refine EJ ?_ | simp only [AN,AV,AK,AM,AU,AH,AL,AW,AO,AR,AS,AQ,AT,AP,BQ,BU,BY,BX,BZ,BW,BT,A7,BA,BB,A9,BC,A8])
  all_goals exact hno
 have hk:=BG hs
 obtain ⟨s,hss⟩: ∃s,(AA os id).toNat=s:=⟨_,rfl⟩
 have hsI:AA os id=(s:Int):=by omega
 have hs:s<8:=hss ▸ hk.2.2.2.1
 replace h:=h s hsI hs
 clear hno
 rw [hsI]
 refine EJ ?_
 have hsl:s<col.length:=by omega
 simp only [AN,AV,AK,AM,AU,AH,AL,AW,AO,AR,AS,AQ,AT,AP,BQ,BU,BY,BX,BZ,BW,BT,A7,BA,BB,A9,BC,A8]
 refine BH (BH (BH (cF (AG hsl ?_))))
 refine cF (ldI hsl (cF (BM (SO rfl ?_))))
 refine AY (fun he=>h _ _ (LZ.refl h1 h2 hf he)) fun h0=> ?_
 refine AG (by omega) (gL (v:=1) (by omega) ?_)
 refine G7 (α:=List Int×Nat×List Int×List Int×List Int) (fun q=>[iv q.2.2.1.length,iv q.2.1]) (fun q=>[tI q.1,tI q.2.2.2.1,tI q.2.2.2.2]) (fun q=>q.2.2.1.length+2*J3 q.2.2.2.2 1) (fun q=>Vw q.1 q.2.1 q.2.2.1∧OR os 1 (-1) cs col s q.2.2.1 q.2.2.2.1 q.2.2.2.2) ([(s:Int)],0,[(s:Int)],cs,col.set s 1) rfl rfl ⟨Vw.new _,OR.start hs h1 h2 hf h0⟩ (fun R q hq hR=> ?_)
 obtain ⟨row,off,todo,cs1,col1⟩:=q
 obtain ⟨vw,wk⟩:=hq
 simp only at vw wk
 have hsz:=wk.sz
 have hbd:=vw.bd
 simp only [AN,AV,AK,AM,AU,AH,AL,AW,AO,AR,AS,AQ,AT,AP,BQ,BU,BY,BX,BZ,BW,BT,A7,BA,BB,A9,BC,A8]
 simp only [AX]
 refine KJ (AY (fun hlt=> ?_) fun hge=> ?_)
 ·have hlt:todo.length>0:=by omega
  obtain ⟨k,hk⟩: ∃k,(gI todo (todo.length-1)).toNat=k:=⟨_,rfl⟩
  obtain ⟨e1,k8,wj⟩:=wk.pop hlt hk
  have ev:((todo.length:Int)-1)=((todo.length-1:Nat):Int):=by omega
  refine F8 ⟨by omega,by omega⟩ ?_
  rw [ev]
  refine AG (by omega) ?_
  have eg:=vw.get (j:=todo.length-1) (by omega)
  have el:ldc (tI row) [] (off+AB (iv (todo.length-1))*1)=ldc (tI row) [] (AB (iv (off+(todo.length-1)))*1):=by rw [AX,AX];congr 1;omega
  rw [el]
  refine ldI (by omega) ?_
  rw [eg,e1]
  refine F8 ⟨by omega,by omega⟩ ?_
  rw [ev]
  refine fV (by omega) (L7 hol hof k8 ?_)
  have hkl:=RV hof (k:=k) (by omega)
  refine G7 (α:=Nat×List Int×Nat×List Int×List Int×List Int) (fun q=>[iv q.2.2.2.1.length,iv q.2.2.1,iv q.1]) (fun q=>[tI q.2.1,tI (BE os k),tI q.2.2.2.2.1,tI q.2.2.2.2.2]) (fun q=>(BE os k).length-q.1) (fun q=>q.1≤(BE os k).length∧Vw q.2.1 q.2.2.1 q.2.2.2.1∧OD os 1 (-1) cs col s k q.1 q.2.2.2.1 q.2.2.2.2.1 q.2.2.2.2.2∧q.2.2.2.1.length+2*J3 q.2.2.2.2.2 1<todo.length+2*J3 col1 1) (0,row,off,todo.dropLast,cs1,col1) ?_ rfl ⟨Nat.zero_le _,vw.pop,wj,by simp only [List.length_dropLast];omega⟩ (fun R2 q hq hR2=> ?_)
  ·simp only [List.length_dropLast,AX,Nat.zero_mul,Nat.add_zero];rfl
  obtain ⟨j,row2,off2,todo2,cs2,col2⟩:=q
  obtain ⟨hj,vw2,wj2,hms⟩:=hq
  simp only at hj vw2 wj2 hms
  have hsz2:=wj2.sz
  have hbd2:=vw2.bd
  have hl2:=wj2.len
  simp only [AN,AV,AK,AM,AU,AH,AL,AW,AO,AR,AS,AQ,AT,AP,BQ,BU,BY,BX,BZ,BW,BT,A7,BA,BB,A9,BC,A8]
  simp only [AX]
  refine A4 (AY (fun hlj=> ?_) fun hgj=> ?_)
  ·have hlj:j<(BE os k).length:=by omega
   obtain ⟨x,hx⟩: ∃x,(gI (BE os k) j).toNat=x:=⟨_,rfl⟩
   obtain ⟨x1,x2,x3,_⟩:=B5 (ER hlj)
   rw [hx] at x2 x3
   have xc:x<cs2.length:=by omega
   have xl:x<col2.length:=by omega
   refine BV (AG hlj (ldI hlj (AG hlj (ldI hlj ?_))))
   rw [x3]
   refine AG xc (ldI xc (dO (AG xc (gL xc (AG hlj (ldI hlj ?_))))))
   rw [x3]
   refine AG xl (ldI xl (C0 (AY (fun hne=> ?_) fun heq=> ?_)))
   ·refine AG hlj (ldI hlj ?_)
    rw [x3]
    refine AG xl (gL (v:=1) xl (AG hlj (ldI hlj ?_)))
    rw [x3]
    have wn:=wj2.new hlj x3 hne
    have:=QZ (a:=col2) (b:=col2.set x 1) (c:=1) x2 hne (by rw [ET xl];simp) fun y _ hy=>by rw [ET xl];split <;> first | rfl | exact hy
    refine GN rfl (by omega) (BD (by omega) ?_)
    have:=hR2 (j+1,todo2++[(x:Int)],0,todo2++[(x:Int)],_,_) ⟨by simp only;omega,Vw.new _,wn,by simp only [List.length_append,List.length_singleton];omega⟩ (by simp only;omega)
    simp only [Nat.mul_one,RU,vw2.vw]
    have ea:tI todo2++[T.c (I (x:Int))]=tI (todo2++[(x:Int)]):=HV _ _
    rw [ea]
    simp only [AN,AV,AK,AM,AU,AH,AL,AW,AO,AR,AS,AQ,AT,AP,BQ,BU,BY,BX,BZ,BW,BT,A7,BA,BB,A9,BC,A8]
    simp only [AX]
    exact this
   ·have heq:gI col2 x=1:=Decidable.not_not.1 heq
    have wo:=wj2.old hlj x3 heq
    refine BD (by omega) ?_
    have:=hR2 (j+1,row2,off2,todo2,_,_) ⟨by simp only;omega,vw2,wo,hms⟩ (by simp only;omega)
    simp only [AN,AV,AK,AM,AU,AH,AL,AW,AO,AR,AS,AQ,AT,AP,BQ,BU,BY,BX,BZ,BW,BT,A7,BA,BB,A9,BC,A8]
    simp only [AX]
    exact this
  ·have:j=(BE os k).length:=by omega
   subst this
   have:=hR (row2,off2,todo2,cs2,col2) ⟨vw2,wj2.stop⟩ hms
   exact this
 ·have:todo=[]:=List.length_eq_zero_iff.1 (by omega)
  subst this
  exact h _ _ wk.stop
end Go.Proofs.Ytklmcfpgdfibnaa.P
namespace Go.Proofs.Ytklmcfpgdfibnaa.P
open Go Go.Proofs.Ytklmcfpgdfibnaa Go.Proofs.Ytklmcfpgdfibnaa.Eng
set_option linter.unusedVariables false
set_option maxHeartbeats 4000000
set_option linter.unusedVariables false
set_option linter.unusedSimpArgs false
attribute [local irreducible] prP gP gE gF AJ ixW ldc ldg ldl stc stg scW mkW apW A6 cl2 BF CM CB
variable {w0:World}
def EX (os:List AE) (ct:Nat→Int) (C:Nat→Bool) (x:Nat):Prop:=w64 (ct x-S os C x)>0
structure SN (os:List AE) (ct:Nat→Int) (C:Nat→Bool) (cs col:List Int):Prop where
 len:cs.length=8∧col.length=8
 f: ∀i,i<8→F64 (gI cs i)
 rng: ∀k,k<8→gI col k=0∨gI col k=1∨gI col k=2
 out: ∀k,k<8→C k=false→gI col k=0
 cnt: ∀i,i<8→gI cs i=w64 (ct i-S os (fun k=> !isC col 0 k) i)
 blk: ∀k,k<8→C k=true→gI col k=0→(∃x,x<8∧C x=true∧EX os ct C x∧Reach os x k)∧ ∀j∈BE os k,gI col j.toNat=0
 wht: ∀k,k<8→gI col k=2→ ¬EX os ct C k
structure TA (os:List AE) (ct:Nat→Int) (C:Nat→Bool) (col cs' col':List Int) (s:Nat):Prop where
 si:SN os ct C cs' col'
 ng: ∀k,k<8→gI col k≠1→gI col' k≠1
 got:gI col' s≠1
 wk: ∀k,k<8→gI col' k=2→gI col k=2∨ ∀j∈BE os k,gI col' j.toNat≠1
section
variable {os:List AE} {ct:Nat→Int} {C:Nat→Bool} {cs col cs' col':List Int} {s:Nat}
theorem SN.zY (h:SN os ct C cs col) (hs:s<8) (hg:gI col s=1):gI cs s>0↔EX os ct C s:=by
 have e:S os (fun k=> !isC col 0 k) s=S os C s:=by
  refine JZ fun b hb=> ?_
  by_cases h0:gI col b=0
  ·have e1:isC col 0 b=true:=by simp [isC,h0]
   simp only [e1]
   cases hc:C b with
   | false=>simp
   | true=>
     have e2:E os b s=0:=wO fun hm=>by
      have:=(h.blk b hb hc h0).2 _ hm
      rw [Int.toNat_natCast,hg] at this;omega
     simp [e2]
  ·have e1:isC col 0 b=false:=by simp [isC,h0]
   simp only [e1]
   cases hc:C b with
   | false=>exact absurd (h.out b hb hc) h0
   | true=>simp
 rw [h.cnt s hs,e];rfl
theorem SN.inC (h:SN os ct C cs col) (hs:s<8) (hg:gI col s≠0):C s=true:=by
 cases hc:C s with
 | false=>exact absurd (h.out s hs hc) hg
 | true=>rfl
theorem SN.black (h:SN os ct C cs col) (hs:s<8) (hg:gI col s=1) (he:EX os ct C s) (p:LZ os 0 1 cs col cs' col' s):TA os ct C col cs' col' s:=by
 refine ⟨⟨p.len,p.f,fun k hk=> ?_,fun k hk hc=>p.IX k hk (h.out k hk hc),fun i hi=> ?_,fun k hk hc h0=> ?_,fun k hk h2=> ?_⟩,fun k hk h1=> ?_,by rw [p.got];decide,fun k hk h2=> .inl ?_⟩
 ·by_cases h0:gI col' k=0
  ·exact .inl h0
  ·rw [p.only k hk h0];exact h.rng k hk
 ·rw [p.cnt i hi,h.cnt i hi,LP]
  congr 1
  have e1:=ZR (os:=os) (P:=isC col' 0) (i:=i)
  have e2:=ZR (os:=os) (P:=isC col 0) (i:=i)
  omega
 ·by_cases h3:gI col k=0
  ·obtain ⟨g1,g2⟩:=h.blk k hk hc h3
   exact ⟨g1,fun j hj=>p.IX _ (B5 hj).2.1 (g2 j hj)⟩
  ·obtain ⟨g1,g2⟩:=p.clo k hk h0 h3
   exact ⟨⟨s,hs,h.inC hs (by omega),he,g1⟩,g2⟩
 ·have:=p.only k hk (by omega)
  exact h.wht k hk (by omega)
 ·by_cases h0:gI col' k=0
  ·omega
  ·rw [p.only k hk h0];exact h1
 ·have:=p.only k hk (by omega)
  omega
theorem SN.iD (h:SN os ct C cs col) (hs:s<8) (hg:gI col s=1) (he: ¬EX os ct C s):SN os ct C cs (col.set s 2):=by
 have hl:=h.len
 have e: ∀k,gI (col.set s 2) k=if k=s then 2 else gI col k:=fun k=>ET (by omega)
 refine ⟨⟨hl.1,by simpa using hl.2⟩,h.f,fun k hk=> ?_,fun k hk hc=> ?_,fun i hi=> ?_,fun k hk hc h0=> ?_,fun k hk h2=> ?_⟩
 ·rw [e];split
  ·exact .inr (.inr rfl)
  ·exact h.rng k hk
 ·rw [e];split
  ·rename_i hks;subst hks;have:=h.out k hk hc;omega
  ·exact h.out k hk hc
 ·rw [h.cnt i hi]
  congr 2
  refine jU fun k hk=> ?_
  simp only [isC,e]
  split
  ·rename_i hks;subst hks;simp [hg]
  ·rfl
 ·rw [e] at h0
  split at h0
  ·omega
  ·obtain ⟨g1,g2⟩:=h.blk k hk hc h0
   refine ⟨g1,fun j hj=> ?_⟩
   rw [e];split
   ·rename_i hjs;have:=g2 j hj;rw [hjs] at this;omega
   ·exact g2 j hj
 ·rw [e] at h2
  split at h2
  ·rename_i hks;subst hks;exact he
  ·exact h.wht k hk h2
theorem SN.same (h:SN os ct C cs col) (hg:gI col s≠1):TA os ct C col cs col s:=⟨h,fun _ _ h=>h,hg,fun _ _ h=> .inl h⟩
end
structure VG (os:List AE) (ct:Nat→Int) (C:Nat→Bool) (col:List Int) (s:Nat) (q:Nat×List Int×List Int):Prop where
 j:q.1≤(BE os s).length
 si:SN os ct C q.2.1 q.2.2
 ng: ∀k,k<8→gI col k≠1∨k=s→gI q.2.2 k≠1
 wk: ∀k,k<8→k≠s→gI q.2.2 k=2→gI col k=2∨ ∀j∈BE os k,gI q.2.2 j.toNat≠1
 done: ∀x∈(BE os s).take q.1,gI q.2.2 x.toNat≠1
section
variable {os:List AE} {ct:Nat→Int} {C:Nat→Bool} {cs col cs1 col1 cs2 col2:List Int} {s j:Nat}
theorem VG.start (h:SN os ct C cs col) (hs:s<8) (hg:gI col s=1) (he: ¬EX os ct C s):VG os ct C col s (0,cs,col.set s 2):=by
 have hl:=h.len
 have e: ∀k,gI (col.set s 2) k=if k=s then 2 else gI col k:=fun k=>ET (by omega)
 refine ⟨Nat.zero_le _,h.iD hs hg he,fun k hk hh=> ?_,fun k hk hne h2=> ?_,fun x hx=>by simp at hx⟩
 ·simp only;rw [e];split
  ·decide
  ·rename_i hh2;exact hh.resolve_right hh2
 ·simp only at h2;rw [e,if_neg hne] at h2;exact .inl h2
theorem VG.step (h:VG os ct C col s (j,cs1,col1)) (hj:j<(BE os s).length) (p:TA os ct C col1 cs2 col2 (gI (BE os s) j).toNat):VG os ct C col s (j+1,cs2,col2):=by
 refine ⟨by simp only;omega,p.si,fun k hk hh=>p.ng k hk (h.ng k hk hh),fun k hk hne h2=> ?_,fun x hx=> ?_⟩
 ·rcases p.wk k hk h2 with h3 | h3
  ·exact (h.wk k hk hne h3).imp_right fun g y hy=>p.ng _ (B5 hy).2.1 (g y hy)
  ·exact .inr h3
 ·simp only at hx ⊢
  rw [List.take_succ_eq_append_getElem hj,List.mem_append,List.mem_singleton] at hx
  rcases hx with hx | rfl
  ·exact p.ng _ (B5 (List.mem_of_mem_take hx)).2.1 (h.done x hx)
  ·rw [EN hj];exact p.got
theorem VG.stop (hs:s<8) (h:VG os ct C col s ((BE os s).length,cs1,col1)):TA os ct C col cs1 col1 s:=by
 refine ⟨h.si,fun k hk hh=>h.ng k hk (.inl hh),h.ng s hs (.inr rfl),fun k hk h2=> ?_⟩
 by_cases hks:k=s
 ·subst hks
  exact .inr fun y hy=>h.done y (by simp only;rw [List.take_length];exact hy)
 ·exact h.wk k hk hks h2
end
end Go.Proofs.Ytklmcfpgdfibnaa.P
namespace Go.Proofs.Ytklmcfpgdfibnaa.P
open Go Go.Proofs.Ytklmcfpgdfibnaa Go.Proofs.Ytklmcfpgdfibnaa.Eng
set_option linter.unusedVariables false
set_option maxHeartbeats 4000000
set_option linter.unusedVariables false
set_option linter.unusedSimpArgs false
attribute [local irreducible] prP gP gE gF AJ ixW ldc ldg ldl stc stg scW mkW apW A6 cl2 BF CM CB
variable {w0:World}
structure LA (os:List AE) (ct:Nat→Int) (C:Nat→Bool) (col0:List Int) (s:Nat) (todo cs col:List Int):Prop where
 si:SN os ct C cs col
 ng: ∀k,k<8→gI col0 k≠1→gI col k≠1
 wk: ∀k,k<8→gI col k=2→gI col0 k=2∨ ∀j∈BE os k,gI col j.toNat≠1∨j∈todo
 got:gI col s≠1∨(s:Int)∈todo
 td: ∀x∈todo,0≤x∧x.toNat<8
 sz:todo.length+4*(8-J3 col 1)≤40
section
variable {os:List AE} {ct:Nat→Int} {C:Nat→Bool} {col0 cs col cs' col' todo:List Int} {s k:Nat}
theorem LA.stop (h:LA os ct C col0 s [] cs col):TA os ct C col0 cs col s:=
 ⟨h.si,h.ng,h.got.resolve_right (by simp),fun k hk h2=>(h.wk k hk h2).imp_right fun g j hj=>(g j hj).resolve_right (by simp)⟩
theorem PA {x:Int} (hl:todo.length>0) (hk:gI todo (todo.length-1)=(k:Int)) (h:x∈todo):x∈todo.dropLast∨x=(k:Int):=by
 rw [YQ hl,List.mem_append,List.mem_singleton,hk] at h;exact h
theorem LA.drop (h:LA os ct C col0 s todo cs col) (hl:todo.length>0) (hk:gI todo (todo.length-1)=(k:Int)) (hc:gI col k≠1):LA os ct C col0 s todo.dropLast cs col:=by
 refine ⟨h.si,h.ng,fun x hx h2=>(h.wk x hx h2).imp_right fun g j hj=> ?_, ?_,fun x hx=>h.td x (List.dropLast_subset _ hx),by have:=h.sz;rw [List.length_dropLast];omega⟩
 ·rcases g j hj with g | g
  ·exact .inl g
  ·rcases PA hl hk g with g | rfl
   ·exact .inr g
   ·rw [Int.toNat_natCast];exact .inl hc
 ·rcases h.got with g | g
  ·exact .inl g
  ·rcases PA hl hk g with g | g
   ·exact .inr g
   ·have:s=k:=by omega
    subst this;exact .inl hc
theorem LA.black (h:LA os ct C col0 s todo cs col) (hl:todo.length>0) (hk:gI todo (todo.length-1)=(k:Int)) (p:TA os ct C col cs' col' k):LA os ct C col0 s todo.dropLast cs' col':=by
 have hm:J3 col 1≤J3 col' 1:=jK (a:=col') (b:=col) fun y hy h1=>Decidable.byContradiction fun hh=>p.ng y hy hh h1
 refine ⟨p.si,fun x hx h1=>p.ng x hx (h.ng x hx h1),fun x hx h2=> ?_, ?_,fun x hx=>h.td x (List.dropLast_subset _ hx),by have:=h.sz;rw [List.length_dropLast];omega⟩
 ·rcases p.wk x hx h2 with h3 | h3
  ·refine (h.wk x hx h3).imp_right fun g j hj=> ?_
   rcases g j hj with g | g
   ·exact .inl (p.ng _ (B5 hj).2.1 g)
   ·rcases PA hl hk g with g | rfl
    ·exact .inr g
    ·rw [Int.toNat_natCast];exact .inl p.got
  ·exact .inr fun j hj=> .inl (h3 j hj)
 ·rcases h.got with g | g
  ·by_cases hs:s<8
   ·exact .inl (p.ng s hs g)
   ·have e:gI col' s=0:=by
     unfold gI;rw [List.getD_eq_getElem?_getD,List.getElem?_eq_none (by have:=p.si.len.2;omega)];rfl
    rw [e];exact .inl (by decide)
  ·rcases PA hl hk g with g | g
   ·exact .inr g
   ·have:s=k:=by omega
    subst this;exact .inl p.got
theorem LA.iD (hof: ∀o∈os,OF o) (hol:os.length=8) (h:LA os ct C col0 s todo cs col) (hl:todo.length>0) (hk:gI todo (todo.length-1)=(k:Int)) (k8:k<8) (hg:gI col k=1) (he: ¬EX os ct C k):LA os ct C col0 s (todo.dropLast++BE os k) cs (col.set k 2)∧(todo.dropLast++BE os k).length+4*(8-J3 (col.set k 2) 1)<todo.length+4*(8-J3 col 1):=by
 have hlen:=h.si.len
 have e: ∀x,gI (col.set k 2) x=if x=k then 2 else gI col x:=fun x=>ET (by omega)
 have n1: ∀x,gI col x≠1∨x=k→gI (col.set k 2) x≠1:=fun x hx=>by
  rw [e];split
  ·decide
  ·rename_i hh;exact hx.resolve_right hh
 have hkl:=RV hof (k:=k) (by omega)
 have hm:J3 col 1<J3 (col.set k 2) 1:=QZ (a:=col.set k 2) (b:=col) k8 (n1 k (.inr rfl)) hg fun y hy h1=>Decidable.byContradiction fun hh=>n1 y (.inl hh) h1
 have hm8:=m1 (col.set k 2) 1
 have hsz:=h.sz
 refine ⟨⟨h.si.iD k8 hg he,fun x hx h1=>n1 x (.inl (h.ng x hx h1)),fun x hx h2=> ?_, ?_,fun x hx=> ?_,by rw [List.length_append,List.length_dropLast];omega⟩,by rw [List.length_append,List.length_dropLast];omega⟩
 ·by_cases hxk:x=k
  ·subst hxk
   exact .inr fun j hj=> .inr (List.mem_append_right _ hj)
  ·rw [e,if_neg hxk] at h2
   refine (h.wk x hx h2).imp_right fun g j hj=> ?_
   rcases g j hj with g | g
   ·exact .inl (n1 _ (.inl g))
   ·rcases PA hl hk g with g | rfl
    ·exact .inr (List.mem_append_left _ g)
    ·rw [Int.toNat_natCast];exact .inl (n1 _ (.inr rfl))
 ·rcases h.got with g | g
  ·exact .inl (n1 _ (.inl g))
  ·rcases PA hl hk g with g | g
   ·exact .inr (List.mem_append_left _ g)
   ·exact .inl (n1 _ (.inr (by omega)))
 ·rcases List.mem_append.1 hx with hx | hx
  ·exact h.td x (List.dropLast_subset _ hx)
  ·exact ⟨(B5 hx).1,(B5 hx).2.1⟩
theorem LA.start (si:SN os ct C cs col) (hs:s<8):LA os ct C col s [(s:Int)] cs col:=
 ⟨si,fun _ _ h=>h,fun _ _ h=> .inl h, .inr (by simp),fun x hx=>by have hx:x=(s:Int):=by simpa using hx
                                                                  subst hx;rw [Int.toNat_natCast];exact ⟨by omega,hs⟩,by simp only [List.length_singleton];omega⟩
end
theorem TW {os:List AE} {b c' d:List T} {cs col:List Int} {ct:Nat→Int} {C:Nat→Bool} {id:Int} {K:J2} (hol:os.length=8) (hof: ∀o∈os,OF o) (si:SN os ct C cs col) (hno:AA os id<0→K [] [tI cs,tI col]) (h: ∀s:Nat,AA os id=s→s<8→ ∀cs' col',TA os ct C col cs' col' s→K [] [tI cs',tI col']):cl2 ⟨Try.prog,w0⟩ 157 D8.sg [I (AA os id)] [tR tO os,b,c',d,tI cs,tI col] K:=by
 have hl:=si.len
 refine D8.cl2 ?_
 unfold D8.txt
 refine PX (by omega) (by omega) (TL hol hl.1 hl.2 (fun hs=>EJ (CU (hno hs))) fun hs=> ?_)
 have hk:=BG hs
 obtain ⟨s,hss⟩: ∃s,(AA os id).toNat=s:=⟨_,rfl⟩
 have hsI:AA os id=(s:Int):=by omega
 have hs:s<8:=hss ▸ hk.2.2.2.1
 replace h:=h s hsI hs
 clear hno
 rw [hsI]
 refine EJ (B7 ?_)
 refine G7 (α:=List Int×Nat×List Int×List Int×List Int) (fun q=>[iv q.2.2.1.length,iv q.2.1]) (fun q=>[tI q.1,tI q.2.2.2.1,tI q.2.2.2.2]) (fun q=>q.2.2.1.length+4*(8-J3 q.2.2.2.2 1)) (fun q=>Vw q.1 q.2.1 q.2.2.1∧LA os ct C col s q.2.2.1 q.2.2.2.1 q.2.2.2.2) ([(s:Int)],0,[(s:Int)],cs,col) rfl rfl ⟨Vw.new _,LA.start si hs⟩ (fun R q hq hR=> ?_)
 obtain ⟨row,off,todo,cs1,col1⟩:=q
 obtain ⟨vw,wk⟩:=hq
 simp only at vw wk
 have hsz:=wk.sz
 have hbd:=vw.bd
 have hlen:=wk.si.len
 simp only [AN,AV,AK,AM,AU,AH,AL,AW,AO,AR,AS,AQ,AT,AP,BQ,BU,BY,BX,BZ,BW,BT,A7,BA,BB,A9,BC,A8]
 simp only [AX]
 refine KJ (AY (fun hlt=> ?_) fun hge=> ?_)
 ·have hlt:todo.length>0:=by omega
  obtain ⟨k,hk⟩: ∃k,(gI todo (todo.length-1)).toNat=k:=⟨_,rfl⟩
  have ht:=wk.td _ (ER (l:=todo) (i:=todo.length-1) (by omega))
  have e1:gI todo (todo.length-1)=(k:Int):=by omega
  have k8:k<8:=hk ▸ ht.2
  have ev:((todo.length:Int)-1)=((todo.length-1:Nat):Int):=by omega
  refine F8 ⟨by omega,by omega⟩ ?_
  rw [ev]
  refine AG (by omega) ?_
  have eg:=vw.get (j:=todo.length-1) (by omega)
  have el:ldc (tI row) [] (off+AB (iv (todo.length-1))*1)=ldc (tI row) [] (AB (iv (off+(todo.length-1)))*1):=by rw [AX,AX];congr 1;omega
  rw [el]
  refine ldI (by omega) ?_
  rw [eg,e1]
  refine F8 ⟨by omega,by omega⟩ ?_
  rw [ev]
  have kc:k<cs1.length:=by omega
  have kl:k<col1.length:=by omega
  have le:todo.dropLast.length=todo.length-1:=List.length_dropLast
  refine fV (by omega) (AG kl (ldI kl (C0 (AY (fun hg=> ?_) fun hg=> ?_))))
  ·have:=hR (row,off,todo.dropLast,cs1,col1) ⟨vw.pop,wk.drop hlt e1 hg⟩ (by simp only;omega)
   simp only [le] at this
   simp only [AX,Nat.zero_mul,Nat.add_zero]
   exact this
  have hg:gI col1 k=1:=Decidable.not_not.1 hg
  refine AG kc (ldI kc (KJ (AY (fun he=> ?_) fun he=> ?_)))
  ·have he:=(wk.si.zY k8 hg).1 he
   refine VB hol hof k8 hlen.1 hlen.2 wk.si.f (by omega) fun cs' col' p=> ?_
   have sr:=wk.si.black k8 hg he p
   have hm:J3 col1 1≤J3 col' 1:=jK (a:=col') (b:=col1) fun y hy h1=>Decidable.byContradiction fun hh=>sr.ng y hy hh h1
   have:=hR (row,off,todo.dropLast,cs',col') ⟨vw.pop,wk.black hlt e1 sr⟩ (by simp only;omega)
   simp only [le] at this
   simp only [AX,Nat.zero_mul,Nat.add_zero]
   exact this
  ·have he:=fun hx=>he ((wk.si.zY k8 hg).2 hx)
   have hkl:=RV hof (k:=k) (by omega)
   obtain ⟨w1,w2⟩:=wk.iD hof hol hlt e1 k8 hg he
   refine AG kl (gL (v:=2) kl (L7 hol hof k8 ?_))
   simp only [AN,AV,AK,AM,AU,AH,AL,AW,AO,AR,AS,AQ,AT,AP,BQ,BU,BY,BX,BZ,BW,BT,A7,BA,BB,A9,BC,A8]
   simp only [AX,Nat.zero_mul,Nat.add_zero,Nat.mul_one,RU]
   refine GN (OW _) (by omega) ?_
   have ep:=vw.pop.vw
   rw [le] at ep
   rw [ep]
   have:=hR (todo.dropLast++BE os k,0,todo.dropLast++BE os k,cs1,col1.set k 2) ⟨Vw.new _,w1⟩ w2
   have ea:tI todo.dropLast++tI (BE os k)=tI (todo.dropLast++BE os k):=by simp [tI]
   rw [ea,AH]
   exact this
 ·have:todo=[]:=List.length_eq_zero_iff.1 (by omega)
  subst this
  exact h _ _ wk.stop
end Go.Proofs.Ytklmcfpgdfibnaa.P
