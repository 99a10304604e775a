/- A part of the proof. -/
import Derived.Test.YtnhicpkhkaihoaaGreatFtHpK
namespace Go.Proofs.YtnhicpkhkaihoaaGreat.P
open Go Go.Proofs.YtnhicpkhkaihoaaGreat Go.Proofs.YtnhicpkhkaihoaaGreat.Eng
set_option linter.unusedVariables false
theorem uK (n:Int):w64 n=(n+9223372036854775808) % 18446744073709551616-9223372036854775808:=by
 simp only [w64,IntKind.wrap,IntKind.bits,IntKind.signed]
 simp
 split <;> omega
theorem O8 (a b:Int):w64 (w64 a+b)=w64 (a+b):=by simp only [uK];omega
theorem kB (a:Int):F64 (w64 a):=by rw [uK];exact ⟨by omega,by omega⟩
def ID:Nat→(Nat→Int)→Int
 | 0,_=>0
 | n+1,f=>ID n f+f n
theorem M6 {n:Nat} {f g:Nat→Int} (h: ∀k,k<n→f k=g k):ID n f=ID n g:=by
 induction n with
 | zero=>rfl
 | succ n ih=>simp only [ID];rw [ih fun k hk=>h k (by omega),h n (by omega)]
theorem W0 {n k0:Nat} {f g:Nat→Int} (hk:k0<n) (h: ∀k,k<n→k≠k0→f k=g k):ID n g=ID n f+(g k0-f k0):=by
 induction n with
 | zero=>omega
 | succ n ih=>
   simp only [ID]
   by_cases he:k0=n
   ·subst he
    rw [M6 (g:=g) fun k hk=>h k (by omega) (by omega)];omega
   ·rw [ih (by omega) fun k hk hne=>h k (by omega) hne,h n (by omega) (by omega)];omega
theorem qH {n:Nat} {f g:Nat→Int}:ID n (fun k=>f k+g k)=ID n f+ID n g:=by
 induction n with
 | zero=>rfl
 | succ n ih=>simp only [ID,ih];omega
theorem MH {n:Nat} {f:Nat→Int} (h: ∀k,k<n→f k=0):ID n f=0:=by
 induction n with
 | zero=>rfl
 | succ n ih=>simp only [ID];rw [ih fun k hk=>h k (by omega),h n (by omega)];rfl
theorem OB {n:Nat} {f g:Nat→Int} (h: ∀k,k<n→f k≤g k):ID n f≤ID n g:=by
 induction n with
 | zero=>exact Int.le_refl _
 | succ n ih=>simp only [ID];have:=ih fun k hk=>h k (by omega);have:=h n (by omega);omega
theorem FJ {l:List Int} {i k:Nat} {v:Int} (hk:k<l.length):gI (l.set k v) i=if i=k then v else gI l i:=by
 unfold gI
 by_cases h:i=k
 ·subst h
  rw [if_pos rfl,List.getD_eq_getElem?_getD,List.getElem?_set_self hk];rfl
 ·rw [if_neg h,List.getD_eq_getElem?_getD,List.getElem?_set_ne (Ne.symm h),List.getD_eq_getElem?_getD]
def BY (os:List A7) (k:Nat):List Int:=((ob os k).field.map (AB os)).filter fun x=>decide (0≤x)
def E (os:List A7) (k i:Nat):Int:=((BY os k).count (i:Int):Nat)
theorem EM {os:List A7} {k:Nat} {x:Int} (h:x∈BY os k):0≤x∧x.toNat<8∧x=(x.toNat:Int)∧os.length=8∧(ob os x.toNat).live=true:=by
 obtain ⟨h1,h2⟩:=List.mem_filter.1 h
 obtain ⟨f,_,rfl⟩:=List.mem_map.1 h1
 have h2:0≤AB os f:=by simpa using h2
 have:=BU h2
 exact ⟨h2,this.2.2.2.1,by omega,this.1,this.2.2.2.2.1⟩
theorem PZ {os:List A7} (hof: ∀o∈os,OF o) {k:Nat} (hk:k<os.length):(BY os k).length≤3:=by
 have:=List.length_filter_le (fun x=>decide (0≤x)) ((ob os k).field.map (AB os))
 rw [List.length_map,(hof _ (HY hk)).len] at this
 exact this
theorem VG (os:List A7) (k i:Nat):0≤E os k i:=Int.natCast_nonneg _
theorem Bx {os:List A7} {k i:Nat} (h:(i:Int)∉BY os k):E os k i=0:=by
 unfold E;rw [List.count_eq_zero.2 h];rfl
inductive Reach (os:List A7) (s:Nat):Nat→Prop
 | refl:Reach os s s
 | step {k:Nat} {j:Int}:Reach os s k→j∈BY os k→Reach os s j.toNat
theorem Reach.trans {os:List A7} {a b c:Nat} (h:Reach os a b) (g:Reach os b c):Reach os a c:=by
 induction g with
 | refl=>exact h
 | step _ hj ih=>exact .step ih hj
theorem Reach.closed {os:List A7} {P:Nat→Prop} {s k:Nat} (h:Reach os s k) (hs:P s) (hc: ∀k,P k→ ∀j∈BY os k,P j.toNat):P k:=by
 induction h with
 | refl=>exact hs
 | step _ hj ih=>exact hc _ ih _ hj
theorem Reach.lt {os:List A7} {s k:Nat} (h:Reach os s k) (hs:s<8):k<8:=h.closed (P:=fun k=>k<8) hs fun _ _ _ hj=>(EM hj).2.1
def S (os:List A7) (P:Nat→Bool) (i:Nat):Int:=ID 8 fun k=>if P k then E os k i else 0
theorem oO {os:List A7} {P Q:Nat→Bool} {i:Nat} (h: ∀k,k<8→P k=Q k):S os P i=S os Q i:=M6 fun k hk=>by rw [h k hk]
theorem vS {os:List A7} {P Q:Nat→Bool} {i k0:Nat} (hk:k0<8) (h0:P k0=false) (h1:Q k0=true) (h: ∀k,k<8→k≠k0→P k=Q k):S os Q i=S os P i+E os k0 i:=by
 unfold S
 rw [W0 (n:=8) (f:=fun k=>if P k then E os k i else 0) (g:=fun k=>if Q k then E os k i else 0) hk fun k hk hne=>by rw [h k hk hne]]
 simp only [h0,h1];simp
theorem gD {os:List A7} {P:Nat→Bool} {i:Nat}:S os P i+S os (fun k=> !P k) i=S os (fun _=>true) i:=by
 unfold S
 rw [←qH]
 refine M6 fun k hk=> ?_
 cases h:P k <;> simp [h]
def isC (col:List Int) (c:Int) (k:Nat):Bool:=decide (gI col k=c)
theorem TD {col:List Int} {c:Int} {k s:Nat} (hs:s<col.length):isC (col.set s c) c k=(decide (k=s)||isC col c k):=by
 unfold isC
 rw [FJ hs]
 by_cases h:k=s
 ·simp [h]
 ·simp [h]
def KX (col:List Int) (c:Int):Nat:=(ID 8 fun k=>if isC col c k then 0 else 1).toNat
theorem nT {a b:List Int} {c:Int} (h: ∀k,k<8→gI a k=c→gI b k=c):KX b c≤KX a c:=by
 have:ID 8 (fun k=>if isC b c k then 0 else 1)≤ID 8 (fun k=>if isC a c k then 0 else 1):=OB fun k hk=>by
  by_cases h1:gI a k=c
  ·simp [isC,h1,h k hk h1]
  ·by_cases h3:gI b k=c <;> simp [isC,h1,h3]
 unfold KX;omega
theorem NO {a b:List Int} {c:Int} {s:Nat} (hs:s<8) (h0:gI a s≠c) (h1:gI b s=c) (h: ∀k,k<8→gI a k=c→gI b k=c):KX b c<KX a c:=by
 have hle:ID 8 (fun k=>if isC b c k then 0 else 1)≤ID 8 (fun k=>if isC a c k∨k=s then 0 else 1):=OB fun k hk=>by
  by_cases h2:gI a k=c
  ·simp [isC,h2,h k hk h2]
  ·by_cases hks:k=s
   ·subst hks;simp [isC,h1]
   ·by_cases h3:gI b k=c <;> simp [isC,h2,h3,hks]
 have hu:=W0 (n:=8) (k0:=s) (f:=fun k=>if isC a c k∨k=s then (0:Int) else 1) (g:=fun k=>if isC a c k then (0:Int) else 1) hs fun k hk hne=>by simp [hne]
 have e1:isC a c s=false:=by simp [isC,h0]
 simp only [e1,or_true,if_true] at hu
 have h3:0≤ID 8 (fun k=>if isC b c k then (0:Int) else 1):=by
  have:=OB (n:=8) (f:=fun _=>0) (g:=fun k=>if isC b c k then (0:Int) else 1) fun k hk=>by split <;> simp
  rw [MH (fun _ _=>rfl)] at this;exact this
 simp only [Bool.false_eq_true,if_false] at hu
 unfold KX;omega
theorem WQ (col:List Int) (c:Int):KX col c≤8:=by
 have:ID 8 (fun k=>if isC col c k then (0:Int) else 1)≤ID 8 (fun _=>1):=OB fun k hk=>by split <;> simp
 have e:ID 8 (fun _=>(1:Int))=8:=rfl
 unfold KX;omega
structure L9 (os:List A7) (c m:Int) (cs col cs' col':List Int) (s:Nat):Prop where
 len:cs'.length=8∧col'.length=8
 f: ∀i,i<8→F64 (gI cs' i)
 OH: ∀k,k<8→gI col k=c→gI col' k=c
 only: ∀k,k<8→gI col' k≠c→gI col' k=gI col k
 got:gI col' s=c
 clo: ∀k,k<8→gI col' k=c→gI col k≠c→Reach os s k∧ ∀j∈BY os k,gI col' j.toNat=c
 cnt: ∀i,i<8→gI cs' i=w64 (gI cs i+m*(S os (isC col' c) i-S os (isC col c) i))
theorem L9.refl {os:List A7} {c m:Int} {cs col:List Int} {s:Nat} (h1:cs.length=8) (h2:col.length=8) (hf: ∀i,i<8→F64 (gI cs i)) (hs:gI col s=c):L9 os c m cs col cs col s:=
 ⟨⟨h1,h2⟩,hf,fun _ _ h=>h,fun _ _ _=>rfl,hs,fun _ _ h1 h2=>absurd h1 h2,fun i hi=>by rw [Int.sub_self,Int.mul_zero,Int.add_zero,K9 (hf i hi)]⟩
end Go.Proofs.YtnhicpkhkaihoaaGreat.P
namespace Go.Proofs.YtnhicpkhkaihoaaGreat.P
open Go Go.Proofs.YtnhicpkhkaihoaaGreat Go.Proofs.YtnhicpkhkaihoaaGreat.Eng
set_option linter.unusedVariables false
set_option maxHeartbeats 4000000
set_option linter.unusedVariables false
set_option linter.unusedSimpArgs false
attribute [local irreducible] prP gP gE gF AV ixW ldc ldg ldl stc stg scW mkW apW BC cl2 BW F6 C2
variable {w0:World}
theorem c8 {os:List A7} {l:List Int} {i:Nat} (hi:i<l.length):((l.take (i+1)).map (AB os)).filter (fun x=>decide (0≤x))=((l.take i).map (AB os)).filter (fun x=>decide (0≤x))++(if 0≤AB os (gI l i) then [AB os (gI l i)] else []):=by
 rw [List.take_succ_eq_append_getElem hi,List.map_append,List.filter_append,G3 hi]
 congr 1
 by_cases h:0≤AB os (gI l i) <;> simp [h]
theorem SM {os:List A7} {b c d:List T} {k:Nat} {K:J2} (hol:os.length=8) (hof: ∀o∈os,OF o) (hk:k<8) (h:K [] [tI (BY os k)]):cl2 ⟨Tryz.prog,w0⟩ 194 FL.sg [I k] [tR tO os,b,c,d] K:=by
 have hkl:k<os.length:=by omega
 have ho:=hof _ (HY hkl)
 refine FL.cl2 ?_
 unfold FL.txt
 simp only [AI,AL,AH,AJ,AM,AE,AG,AR,AP,AN,AQ,AO,AS,AK,BD,BF,BI,BJ,BH,BG,BE,A1,AZ,AY,AX,A4,A5]
 refine AU hkl (SW (f:=tO) (i:=k) hkl (by decide) rfl ?_)
 rw [IK hkl,AE,ho.len]
 refine A8 (fun i=>[iv (AA (iv k)*8+6),iv 3,iv i]) (fun i=>[tI ((((ob os k).field.take i).map (AB os)).filter fun x=>decide (0≤x))]) 3 (fun _=>True) rfl rfl trivial (fun R i hi hP hR=> ?_)
 have hln:=List.length_filter_le (fun x=>decide (0≤x)) (((ob os k).field.take i).map (AB os))
 have hl2:(((ob os k).field.take i).map (AB os)).length≤i:=by simp;omega
 simp only [AI,AL,AH,AJ,AM,AE,AG,AR,AP,AN,AQ,AO,AS,AK,BD,BF,BI,BJ,BH,BG,BE,A1,AZ,AY,AX,A4,A5]
 rw [A9 (AA (iv k)*8+6),IK hkl,AE]
 refine AW (AT (fun hlt=> ?_) fun hge=> ?_)
 ·have hlt:i<(ob os k).field.length:=by have:=ho.len;omega
  replace hR:=hR (by omega) trivial
  rw [c8 hlt] at hR
  refine BS (AU hlt (N8 hkl hlt (C5 (ho.fld _ (ER hlt)) (by omega) (I4 (AT (fun hs=> ?_) fun hs=> ?_)))))
  ·rw [if_pos hs, ←FE] at hR
   refine EB rfl (by omega) (A6 (by omega) ?_)
   exact hR
  ·rw [if_neg hs,List.append_nil] at hR
   exact A6 (by omega) hR
 ·have:i=3:=by omega
  subst this
  have e:(ob os k).field.take 3=(ob os k).field:=List.take_of_length_le (by rw [ho.len];omega)
  rw [e];exact h
theorem PB {os:List A7} {b c d:List T} {k:Nat} {K:J2} (hol:os.length=8) (hof: ∀o∈os,OF o) (hk:k<8) (h:K [] [tI (BY os k)]):cl2 ⟨Tryz.prog,w0⟩ 187 E9.sg [I k] [tR tO os,b,c,d] K:=by
 have hkl:k<os.length:=by omega
 have ho:=hof _ (HY hkl)
 refine E9.cl2 ?_
 unfold E9.txt
 simp only [AI,AL,AH,AJ,AM,AE,AG,AR,AP,AN,AQ,AO,AS,AK,BD,BF,BI,BJ,BH,BG,BE,A1,AZ,AY,AX,A4,A5]
 refine A8 (fun i=>[I k,iv i]) (fun i=>[tI ((((ob os k).field.take i).map (AB os)).filter fun x=>decide (0≤x))]) 3 (fun _=>True) rfl rfl trivial (fun R i hi hP hR=> ?_)
 have hln:=List.length_filter_le (fun x=>decide (0≤x)) (((ob os k).field.take i).map (AB os))
 have hl2:(((ob os k).field.take i).map (AB os)).length≤i:=by simp;omega
 simp only [AI,AL,AH,AJ,AM,AE,AG,AR,AP,AN,AQ,AO,AS,AK,BD,BF,BI,BJ,BH,BG,BE,A1,AZ,AY,AX,A4,A5]
 refine AU hkl (SW (f:=tO) (i:=k) hkl (by decide) rfl ?_)
 rw [IK hkl,AE,ho.len]
 refine AW (AT (fun hlt=> ?_) fun hge=> ?_)
 ·have hlt:i<(ob os k).field.length:=by have:=ho.len;omega
  replace hR:=hR (by omega) trivial
  rw [c8 hlt] at hR
  refine BS (AU hkl (SW (f:=tO) (i:=k) hkl (by decide) rfl ?_))
  rw [IK hkl,AE]
  refine AU hlt (N8 hkl hlt (C6 (ho.fld _ (ER hlt)) (by omega) (I4 (AT (fun hs=> ?_) fun hs=> ?_))))
  ·rw [if_pos hs, ←FE] at hR
   refine EB rfl (by omega) (A6 (by omega) ?_)
   exact hR
  ·rw [if_neg hs,List.append_nil] at hR
   exact A6 (by omega) hR
 ·have:i=3:=by omega
  subst this
  have e:(ob os k).field.take 3=(ob os k).field:=List.take_of_length_le (by rw [ho.len];omega)
  rw [e];exact h
theorem bM {l:List Int} {i:Nat} {v:Int} {K:List T→Prop} (hi:i<l.length) (h:K (tI (l.set i v))):stc (tI l) [] (AA (iv i)*1) (I v) K:=Cf hi h
structure N5 (os:List A7) (c m:Int) (cs col:List Int) (s:Nat) (q:Nat×List Int×List Int):Prop where
 j:q.1≤(BY os s).length
 len:q.2.1.length=8∧q.2.2.length=8
 f: ∀i,i<8→F64 (gI q.2.1 i)
 OH: ∀k,k<8→gI col k=c∨k=s→gI q.2.2 k=c
 only: ∀k,k<8→gI q.2.2 k≠c→gI q.2.2 k=gI col k
 clo: ∀k,k<8→k≠s→gI q.2.2 k=c→gI col k≠c→Reach os s k∧ ∀j∈BY os k,gI q.2.2 j.toNat=c
 done: ∀x∈(BY os s).take q.1,gI q.2.2 x.toNat=c
 cnt: ∀i,i<8→gI q.2.1 i=w64 (gI cs i+m*(S os (isC q.2.2 c) i-S os (isC col c) i-(((BY os s).drop q.1).count (i:Int):Nat)))
theorem N5.start {os:List A7} {c m:Int} {cs col:List Int} {s:Nat} (hs:s<8) (h1:cs.length=8) (h2:col.length=8) (hf: ∀i,i<8→F64 (gI cs i)) (h0:gI col s≠c):N5 os c m cs col s (0,cs,col.set s c):=by
 refine ⟨Nat.zero_le _,⟨h1,by simpa using h2⟩,hf,fun k hk h=> ?_,fun k hk h=> ?_,fun k hk hne h3 h4=> ?_,fun x hx=>by simp at hx,fun i hi=> ?_⟩
 ·simp only;rw [FJ (by omega)];split
  ·rfl
  ·rename_i hh;exact h.resolve_right hh
 ·simp only at h ⊢;rw [FJ (by omega)] at h ⊢;split
  ·rename_i hh;rw [if_pos hh] at h;exact absurd rfl h
  ·rfl
 ·simp only at h3;rw [FJ (by omega),if_neg hne] at h3;exact absurd h3 h4
 ·simp only
  have e:=vS (os:=os) (P:=isC col c) (Q:=isC (col.set s c) c) (i:=i) hs (by simp [isC,h0]) (by rw [TD (by omega)];simp) fun k hk hne=>by rw [TD (by omega)];simp [hne]
  rw [e,List.drop_zero]
  have:(((BY os s).count (i:Int):Nat):Int)=E os s i:=rfl
  rw [this]
  have e2:S os (isC col c) i+E os s i-S os (isC col c) i-E os s i=0:=by omega
  rw [e2,Int.mul_zero,Int.add_zero,K9 (hf i hi)]
theorem N5.step {os:List A7} {c m:Int} {cs col:List Int} {s:Nat} {j:Nat} {cs1 col1 cs2 col2:List Int} (hs:s<8) (h:N5 os c m cs col s (j,cs1,col1)) (hj:j<(BY os s).length) (p:L9 os c m (cs1.set (gI (BY os s) j).toNat (w64 (gI cs1 (gI (BY os s) j).toNat+m))) col1 cs2 col2 (gI (BY os s) j).toNat):N5 os c m cs col s (j+1,cs2,col2):=by
 have hx:=EM (ER hj)
 have l1:=h.len
 refine ⟨by simp only;omega,p.len,p.f,fun k hk hh=>p.OH k hk (h.OH k hk hh),fun k hk hne=> ?_,fun k hk hne h3 h4=> ?_,fun x hx=> ?_,fun i hi=> ?_⟩
 ·have e:=p.only k hk hne
  simp only at hne ⊢
  rw [e]
  exact h.only k hk (by simp only;rw [←e];exact hne)
 ·by_cases h5:gI col1 k=c
  ·obtain ⟨g1,g2⟩:=h.clo k hk hne h5 h4
   exact ⟨g1,fun y hy=>p.OH _ (EM hy).2.1 (g2 y hy)⟩
  ·obtain ⟨g1,g2⟩:=p.clo k hk h3 h5
   exact ⟨Reach.trans (.step .refl (ER hj)) g1,g2⟩
 ·simp only at hx ⊢
  rw [List.take_succ_eq_append_getElem hj,List.mem_append,List.mem_singleton] at hx
  rcases hx with hx | rfl
  ·exact p.OH _ (EM (List.mem_of_mem_take hx)).2.1 (h.done x hx)
  ·rw [G3 hj];exact p.got
 ·have e1:=p.cnt i hi
  have e2:=h.cnt i hi
  simp only at e1 e2 ⊢
  rw [FJ (by have:=h.len.1;simp only at this;omega)] at e1
  have e3:(((BY os s).drop j).count (i:Int):Int)=(if i=(gI (BY os s) j).toNat then 1 else 0)+(((BY os s).drop (j+1)).count (i:Int):Int):=by
   rw [drop_cons hj,List.count_cons]
   by_cases hh:i=(gI (BY os s) j).toNat
   ·have:(gI (BY os s) j==(i:Int))=true:=by simp;omega
    rw [if_pos hh,this];simp;omega
   ·have:(gI (BY os s) j==(i:Int))=false:=by simp;omega
    rw [if_neg hh,this];simp
  rw [e1]
  by_cases hh:i=(gI (BY os s) j).toNat
  ·rw [if_pos hh, ←hh,e2,O8,Int.add_assoc,O8]
   rw [if_pos hh] at e3
   congr 1
   rw [e3]
   generalize S os (isC col2 c) i=a
   generalize S os (isC col1 c) i=b
   generalize S os (isC col c) i=d
   generalize ((List.drop (j+1) (BY os s)).count (i:Int):Int)=e
   simp only [Int.mul_sub,Int.mul_add,Int.mul_one];omega
  ·rw [if_neg hh,e2,O8]
   rw [if_neg hh] at e3
   congr 1
   rw [e3]
   generalize S os (isC col2 c) i=a
   generalize S os (isC col1 c) i=b
   generalize S os (isC col c) i=d
   generalize ((List.drop (j+1) (BY os s)).count (i:Int):Int)=e
   simp only [Int.mul_sub,Int.mul_add,Int.mul_zero];omega
theorem N5.stop {os:List A7} {c m:Int} {cs col:List Int} {s:Nat} {cs1 col1:List Int} (hs:s<8) (h:N5 os c m cs col s ((BY os s).length,cs1,col1)):L9 os c m cs col cs1 col1 s:=by
 refine ⟨h.len,h.f,fun k hk hh=>h.OH k hk (.inl hh),h.only,h.OH s hs (.inr rfl),fun k hk h3 h4=> ?_,fun i hi=> ?_⟩
 ·by_cases hks:k=s
  ·subst hks
   exact ⟨.refl,fun y hy=>h.done y (by simp only;rw [List.take_length];exact hy)⟩
  ·exact h.clo k hk hks h3 h4
 ·have:=h.cnt i hi
  simp only [List.drop_length,List.count_nil] at this
  rw [this];simp
theorem U7 {os:List A7} {b c' d:List T} {c m:Int} (hol:os.length=8) (hof: ∀o∈os,OF o) (hc:F64 c) (hm:F64 m): ∀(n:Nat) {cs col:List Int} {s:Nat} {K:J2},KX col c≤n→s<8→cs.length=8→col.length=8→(∀i,i<8→F64 (gI cs i))→(∀cs' col',L9 os c m cs col cs' col' s→K [] [tI cs',tI col'])→cl2 ⟨Tryz.prog,w0⟩ 192 B8.sg [I s,I c,I m] [tI cs,tI col,tR tO os,b,c',d] K:=by
 intro n
 induction n with
 | zero=>
   intro cs col s K hn hs h1 h2 hf h
   refine B8.cl2 ?_
   unfold B8.txt
   simp only [AI,AL,AH,AJ,AM,AE,AG,AR,AP,AN,AQ,AO,AS,AK,BD,BF,BI,BJ,BH,BG,BE,A1,AZ,AY,AX,A4,A5]
   refine AU (by omega) (ldI (by omega) (BL (AT (fun he=>h _ _ (L9.refl h1 h2 hf he)) fun he=> ?_)))
   have:=NO (a:=col) (b:=col.set s c) (c:=c) hs he (by rw [FJ (by omega)];simp) fun k hk hh=>by rw [FJ (by omega)];split <;> first | rfl | exact hh
   exact absurd this (by omega)
 | succ n ih=>
   intro cs col s K hn hs h1 h2 hf h
   refine B8.cl2 ?_
   unfold B8.txt
   simp only [AI,AL,AH,AJ,AM,AE,AG,AR,AP,AN,AQ,AO,AS,AK,BD,BF,BI,BJ,BH,BG,BE,A1,AZ,AY,AX,A4,A5]
   refine AU (by omega) (ldI (by omega) (BL (AT (fun he=>h _ _ (L9.refl h1 h2 hf he)) fun he=> ?_)))
   refine AU (by omega) (bM (by omega) (SM hol hof hs ?_))
   simp only [AI,AL,AH,AJ,AM,AE,AG,AR,AP,AN,AQ,AO,AS,AK,BD,BF,BI,BJ,BH,BG,BE,A1,AZ,AY,AX,A4,A5]
   have hkl:=PZ hof (k:=s) (by omega)
   refine DK (α:=Nat×List Int×List Int) (fun q=>[I c,I m,iv (BY os s).length,iv q.1]) (fun q=>[tI (BY os s),tI q.2.1,tI q.2.2]) (fun q=>(BY os s).length-q.1) (N5 os c m cs col s) (0,cs,col.set s c) rfl rfl (N5.start hs h1 h2 hf he) (fun R q hq hR=> ?_)
   obtain ⟨j,cs1,col1⟩:=q
   have hj:=hq.j
   have hl:=hq.len
   simp only at hj hl
   simp only [AI,AL,AH,AJ,AM,AE,AG,AR,AP,AN,AQ,AO,AS,AK,BD,BF,BI,BJ,BH,BG,BE,A1,AZ,AY,AX,A4,A5]
   refine AW (AT (fun hlt=> ?_) fun hge=> ?_)
   ·have hlt:j<(BY os s).length:=by omega
    obtain ⟨x1,x2,x3,_⟩:=EM (ER hlt)
    have hmiss:KX col1 c≤n:=by
     have:=NO (a:=col) (b:=col1) (c:=c) hs he (hq.OH s hs (.inr rfl)) fun k hk hh=>hq.OH k hk (.inl hh)
     omega
    have stp:=fun cs2 col2=>N5.step (cs2:=cs2) (col2:=col2) hs hq hlt
    obtain ⟨x,hx⟩: ∃x,(gI (BY os s) j).toNat=x:=⟨_,rfl⟩
    rw [hx] at x2 x3 stp
    refine AU hlt (ldI hlt ?_)
    rw [x3]
    refine AU (by omega) (ldI (by omega) (FU (AU (by omega) (bM (by omega) ?_))))
    refine ih hmiss x2 (by simpa using hl.1) hl.2 (fun i hi=> ?_) fun cs2 col2 p=> ?_
    ·rw [FJ (by omega)];split
     ·exact kB _
     ·exact hq.f i hi
    ·exact A6 (by omega) (hR (j+1,cs2,col2) (stp _ _ p) (by simp only;omega))
   ·have:j=(BY os s).length:=by omega
    subst this
    exact h _ _ (N5.stop hs hq)
end Go.Proofs.YtnhicpkhkaihoaaGreat.P
namespace Go.Proofs.YtnhicpkhkaihoaaGreat.P
open Go Go.Proofs.YtnhicpkhkaihoaaGreat Go.Proofs.YtnhicpkhkaihoaaGreat.Eng
set_option linter.unusedVariables false
set_option maxHeartbeats 4000000
set_option linter.unusedVariables false
set_option linter.unusedSimpArgs false
attribute [local irreducible] prP gP gE gF AV ixW ldc ldg ldl stc stg scW mkW apW BC cl2 BW F6 C2
variable {w0:World}
def W (os:List A7):List Int→Nat→Int
 | [],_=>0
 | x::l,i=>E os x.toNat i+W os l i
theorem zN (os:List A7) (a b:List Int) (i:Nat):W os (a++b) i=W os a i+W os b i:=by
 induction a with
 | nil=>simp [W]
 | cons x a ih=>simp only [List.cons_append,W,ih];omega
structure Vw (row:List Int) (off:Nat) (todo:List Int):Prop where
 bd:off+todo.length≤row.length
 vw:(row.drop off).take todo.length=todo
theorem Vw.get {row todo:List Int} {off j:Nat} (h:Vw row off todo) (hj:j<todo.length):gI row (off+j)=gI todo j:=by
 have e:=congrArg (fun l=>l[j]?) h.vw
 simp only [List.getElem?_take,hj,if_true,List.getElem?_drop] at e
 unfold gI
 rw [List.getD_eq_getElem?_getD,List.getD_eq_getElem?_getD,e]
theorem Vw.pop {row todo:List Int} {off:Nat} (h:Vw row off todo):Vw row off todo.dropLast:=by
 refine ⟨by have:=h.bd;rw [List.length_dropLast];omega, ?_⟩
 have e:=congrArg List.dropLast h.vw
 rw [List.dropLast_eq_take,List.take_take] at e
 rw [List.length_dropLast, ←e,List.length_take,List.length_drop]
 have:=h.bd
 congr 1;omega
theorem Vw.new (todo:List Int):Vw todo 0 todo:=⟨by omega,by simp⟩
theorem cG {todo:List Int} (h:todo.length>0):todo=todo.dropLast++[gI todo (todo.length-1)]:=by
 have hne:todo≠[]:=fun he=>by rw [he] at h;simp at h
 have:=(List.dropLast_concat_getLast hne).symm
 rw [List.getLast_eq_getElem hne,G3 (by omega)] at this
 exact this
structure RI (os:List A7) (c m:Int) (cs0 col0:List Int) (s:Nat) (todo cs col:List Int):Prop where
 len:cs.length=8∧col.length=8
 f: ∀i,i<8→F64 (gI cs i)
 OH: ∀k,k<8→gI col0 k=c→gI col k=c
 only: ∀k,k<8→gI col k≠c→gI col k=gI col0 k
 got:gI col s=c
 td: ∀x∈todo,0≤x∧x.toNat<8∧gI col x.toNat=c∧gI col0 x.toNat≠c∧Reach os s x.toNat
 nd:todo.Nodup
 clo: ∀k,k<8→gI col k=c→gI col0 k≠c→Reach os s k∧((k:Int)∈todo∨ ∀j∈BY os k,gI col j.toNat=c)
 cnt: ∀i,i<8→gI cs i=w64 (gI cs0 i+m*(S os (isC col c) i-S os (isC col0 c) i-W os todo i))
 sz:todo.length+KX col c≤8
structure RW (os:List A7) (c m:Int) (cs0 col0:List Int) (s:Nat) (k j:Nat) (todo cs col:List Int):Prop where
 len:cs.length=8∧col.length=8
 f: ∀i,i<8→F64 (gI cs i)
 OH: ∀k,k<8→gI col0 k=c→gI col k=c
 only: ∀k,k<8→gI col k≠c→gI col k=gI col0 k
 got:gI col s=c
 td: ∀x∈todo,0≤x∧x.toNat<8∧gI col x.toNat=c∧gI col0 x.toNat≠c∧Reach os s x.toNat
 nd:todo.Nodup
 me:k<8∧Reach os s k
 clo: ∀x,x<8→x≠k→gI col x=c→gI col0 x≠c→Reach os s x∧((x:Int)∈todo∨ ∀j∈BY os x,gI col j.toNat=c)
 done: ∀x∈(BY os k).take j,gI col x.toNat=c
 cnt: ∀i,i<8→gI cs i=w64 (gI cs0 i+m*(S os (isC col c) i-S os (isC col0 c) i-W os todo i-(((BY os k).drop j).count (i:Int):Nat)))
 sz:todo.length+KX col c≤8
section
variable {os:List A7} {c m:Int} {cs0 col0 cs col todo:List Int} {s k j:Nat}
theorem RI.start (hs:s<8) (h1:cs0.length=8) (h2:col0.length=8) (hf: ∀i,i<8→F64 (gI cs0 i)) (h0:gI col0 s≠c):RI os c m cs0 col0 s [(s:Int)] cs0 (col0.set s c):=by
 have hkeep: ∀k,k<8→gI col0 k=c→gI (col0.set s c) k=c:=fun k hk h=>by rw [FJ (by omega)];split <;> first | rfl | exact h
 have hgot:gI (col0.set s c) s=c:=by rw [FJ (by omega)];simp
 refine ⟨⟨h1,by simpa using h2⟩,hf,hkeep,fun k hk h=> ?_,hgot,fun x hx=> ?_,by simp,fun k hk h3 h4=> ?_,fun i hi=> ?_, ?_⟩
 ·rw [FJ (by omega)] at h ⊢;split
  ·rename_i hh;rw [if_pos hh] at h;exact absurd rfl h
  ·rfl
 ·have hx:x=(s:Int):=by simpa using hx
  subst hx
  rw [Int.toNat_natCast]
  exact ⟨by omega,hs,hgot,h0, .refl⟩
 ·rw [FJ (by omega)] at h3
  by_cases hh:k=s
  ·subst hh;exact ⟨.refl, .inl (by simp)⟩
  ·rw [if_neg hh] at h3;exact absurd h3 h4
 ·have e:=vS (os:=os) (P:=isC col0 c) (Q:=isC (col0.set s c) c) (i:=i) hs (by simp [isC,h0]) (by rw [TD (by omega)];simp) fun k hk hne=>by rw [TD (by omega)];simp [hne]
  simp only [W,Int.toNat_natCast]
  rw [e]
  have e2:S os (isC col0 c) i+E os s i-S os (isC col0 c) i-(E os s i+0)=0:=by omega
  rw [e2,Int.mul_zero,Int.add_zero,K9 (hf i hi)]
 ·have:=NO hs h0 hgot hkeep
  have:=WQ col0 c
  simp only [List.length_singleton];omega
theorem RI.stop (h:RI os c m cs0 col0 s [] cs col):L9 os c m cs0 col0 cs col s:=
 ⟨h.len,h.f,h.OH,h.only,h.got,fun k hk h3 h4=>⟨(h.clo k hk h3 h4).1,(h.clo k hk h3 h4).2.resolve_left (by simp)⟩,fun i hi=>by have:=h.cnt i hi;simp only [W,Int.sub_zero] at this;exact this⟩
theorem RI.pop (h:RI os c m cs0 col0 s todo cs col) (hl:todo.length>0) (hk:(gI todo (todo.length-1)).toNat=k):gI todo (todo.length-1)=(k:Int)∧k<8∧RW os c m cs0 col0 s k 0 todo.dropLast cs col:=by
 have e:=cG hl
 have hm:gI todo (todo.length-1)∈todo:=ER (by omega)
 obtain ⟨t1,t2,t3,t4,t5⟩:=h.td _ hm
 rw [hk] at t2 t3 t4 t5
 have e2:gI todo (todo.length-1)=(k:Int):=by omega
 rw [e2] at e
 have hnd:=h.nd
 rw [e,List.nodup_append] at hnd
 refine ⟨e2,t2,h.len,h.f,h.OH,h.only,h.got,fun x hx=>h.td x (List.dropLast_subset _ hx),hnd.1,⟨t2,t5⟩,fun x hx hne h3 h4=> ?_,by simp,fun i hi=> ?_, ?_⟩
 ·obtain ⟨g1,g2⟩:=h.clo x hx h3 h4
  refine ⟨g1,g2.imp_left fun g=> ?_⟩
  rw [e,List.mem_append,List.mem_singleton] at g
  exact g.resolve_right (by omega)
 ·rw [h.cnt i hi]
  have:W os todo i=W os todo.dropLast i+E os k i:=by
   conv=>lhs;rw [e]
   rw [zN];simp [W]
  rw [this,List.drop_zero]
  congr 3
  have e3:(((BY os k).count (i:Int):Nat):Int)=E os k i:=rfl
  rw [e3];omega
 ·have:=h.sz
  rw [List.length_dropLast];omega
theorem RW.stop (h:RW os c m cs0 col0 s k (BY os k).length todo cs col):RI os c m cs0 col0 s todo cs col:=by
 refine ⟨h.len,h.f,h.OH,h.only,h.got,h.td,h.nd,fun x hx h3 h4=> ?_,fun i hi=> ?_,h.sz⟩
 ·by_cases hk:x=k
  ·subst hk
   exact ⟨h.me.2, .inr fun y hy=>h.done y (by rw [List.take_length];exact hy)⟩
  ·exact h.clo x hx hk h3 h4
 ·have:=h.cnt i hi
  simp only [List.drop_length,List.count_nil] at this
  rw [this];simp
theorem kR {l:List Int} {j i:Nat} {x:Nat} (hj:j<l.length) (hx:gI l j=(x:Int)):((l.drop j).count (i:Int):Int)=(if i=x then 1 else 0)+((l.drop (j+1)).count (i:Int):Int):=by
 rw [drop_cons hj,List.count_cons,hx]
 by_cases hh:i=x
 ·have:((x:Int)==(i:Int))=true:=by simp;omega
  rw [if_pos hh,this];simp;omega
 ·have:((x:Int)==(i:Int))=false:=by simp;omega
  rw [if_neg hh,this];simp
theorem RW.old (h:RW os c m cs0 col0 s k j todo cs col) (hj:j<(BY os k).length) {x:Nat} (hx:gI (BY os k) j=(x:Int)) (hc:gI col x=c):RW os c m cs0 col0 s k (j+1) todo (cs.set x (w64 (gI cs x+m))) col:=by
 have x8:x<8:=by have:=(EM (ER hj)).2.1;rw [hx] at this;simpa using this
 have hl:=h.len
 refine ⟨⟨by simpa using hl.1,hl.2⟩,fun i hi=> ?_,h.OH,h.only,h.got,h.td,h.nd,h.me,h.clo,fun y hy=> ?_,fun i hi=> ?_,h.sz⟩
 ·rw [FJ (by omega)];split
  ·exact kB _
  ·exact h.f i hi
 ·rw [List.take_succ_eq_append_getElem hj,List.mem_append,List.mem_singleton] at hy
  rcases hy with hy | rfl
  ·exact h.done y hy
  ·rw [G3 hj,hx,Int.toNat_natCast];exact hc
 ·rw [FJ (by omega)]
  have e2:=h.cnt i hi
  have e3:=kR (i:=i) hj hx
  by_cases hh:i=x
  ·rw [if_pos hh, ←hh,e2,O8]
   rw [if_pos hh] at e3
   congr 1
   rw [e3]
   generalize S os (isC col c) i=a
   generalize S os (isC col0 c) i=b
   generalize W os todo i=d
   generalize ((List.drop (j+1) (BY os k)).count (i:Int):Int)=e
   simp only [Int.mul_sub,Int.mul_add,Int.mul_one];omega
  ·rw [if_neg hh,e2]
   rw [if_neg hh] at e3
   rw [e3,Int.zero_add]
theorem RW.new (h:RW os c m cs0 col0 s k j todo cs col) (hj:j<(BY os k).length) {x:Nat} (hx:gI (BY os k) j=(x:Int)) (hc:gI col x≠c):RW os c m cs0 col0 s k (j+1) (todo++[(x:Int)]) (cs.set x (w64 (gI cs x+m))) (col.set x c):=by
 have x8:x<8:=by have:=(EM (ER hj)).2.1;rw [hx] at this;simpa using this
 have hl:=h.len
 have hgot:gI (col.set x c) x=c:=by rw [FJ (by omega)];simp
 have kp: ∀y,gI col y=c→gI (col.set x c) y=c:=fun y hy=>by rw [FJ (by omega)];split <;> first | rfl | exact hy
 have hrx:Reach os s x:=by have:=Reach.step h.me.2 (ER hj);rw [hx] at this;simpa using this
 have h0x:gI col0 x≠c:=fun he=>hc (h.OH x x8 he)
 refine ⟨⟨by simpa using hl.1,by simpa using hl.2⟩,fun i hi=> ?_,fun y hy he=>kp y (h.OH y hy he),fun y hy he=> ?_,kp s h.got,fun y hy=> ?_, ?_,h.me,fun y hy hne h3 h4=> ?_,fun y hy=> ?_,fun i hi=> ?_, ?_⟩
 ·rw [FJ (by omega)];split
  ·exact kB _
  ·exact h.f i hi
 ·rw [FJ (by omega)] at he ⊢
  split
  ·rename_i hh;rw [if_pos hh] at he;exact absurd rfl he
  ·rename_i hh;rw [if_neg hh] at he;exact h.only y hy he
 ·rw [List.mem_append,List.mem_singleton] at hy
  rcases hy with hy | rfl
  ·obtain ⟨a1,a2,a3,a4,a5⟩:=h.td y hy
   exact ⟨a1,a2,kp _ a3,a4,a5⟩
  ·rw [Int.toNat_natCast]
   exact ⟨by omega,x8,hgot,h0x,hrx⟩
 ·rw [List.nodup_append]
  refine ⟨h.nd,by simp,fun a ha b hb=> ?_⟩
  have hb:b=(x:Int):=by simpa using hb
  subst hb
  intro he
  subst he
  exact hc (by have:=(h.td _ ha).2.2.1;rwa [Int.toNat_natCast] at this)
 ·by_cases hyx:y=x
  ·subst hyx;exact ⟨hrx, .inl (by simp)⟩
  ·rw [FJ (by omega),if_neg hyx] at h3
   obtain ⟨g1,g2⟩:=h.clo y hy hne h3 h4
   exact ⟨g1,g2.elim (fun g=> .inl (List.mem_append_left _ g)) fun g=> .inr fun z hz=>kp _ (g z hz)⟩
 ·rw [List.take_succ_eq_append_getElem hj,List.mem_append,List.mem_singleton] at hy
  rcases hy with hy | rfl
  ·exact kp _ (h.done y hy)
  ·rw [G3 hj,hx,Int.toNat_natCast];exact hgot
 ·rw [FJ (by omega)]
  have e2:=h.cnt i hi
  have e3:=kR (i:=i) hj hx
  have e:=vS (os:=os) (P:=isC col c) (Q:=isC (col.set x c) c) (i:=i) x8 (by simp [isC,hc]) (by rw [TD (by omega)];simp) fun k hk hne=>by rw [TD (by omega)];simp [hne]
  have ew:W os (todo++[(x:Int)]) i=W os todo i+E os x i:=by rw [zN];simp [W]
  rw [e,ew]
  by_cases hh:i=x
  ·rw [if_pos hh, ←hh,e2,O8]
   rw [if_pos hh] at e3
   congr 1
   rw [e3,hh]
   generalize S os (isC col c) x=a
   generalize S os (isC col0 c) x=b
   generalize W os todo x=d
   generalize E os x x=g
   generalize ((List.drop (j+1) (BY os k)).count (x:Int):Int)=e
   have:a+g-b-(d+g)-e=a-b-d-(1+e)+1:=by omega
   rw [this,Int.mul_add,Int.mul_one];omega
  ·rw [if_neg hh,e2]
   rw [if_neg hh] at e3
   rw [e3]
   congr 3
   omega
 ·have:=NO (c:=c) x8 hc hgot fun y _ hy=>kp y hy
  have:=h.sz
  simp only [List.length_append,List.length_singleton];omega
end
end Go.Proofs.YtnhicpkhkaihoaaGreat.P
namespace Go.Proofs.YtnhicpkhkaihoaaGreat.P
open Go Go.Proofs.YtnhicpkhkaihoaaGreat Go.Proofs.YtnhicpkhkaihoaaGreat.Eng
set_option linter.unusedVariables false
set_option maxHeartbeats 4000000
set_option linter.unusedVariables false
set_option linter.unusedSimpArgs false
attribute [local irreducible] prP gP gE gF AV ixW ldc ldg ldl stc stg scW mkW apW BC cl2 BW F6 C2
variable {w0:World}
theorem PQ {a b:List Int} {K:J2} (h1:a.length≤100) (h2:b.length≤100) (h:K [] [tI a,tI b]):cl2 ⟨Tryz.prog,w0⟩ 190 DN.sg [] [tI a,tI b] K:=by
 refine DN.cl2 ?_
 unfold DN.txt
 exact JP (by omega) (JP (by omega) h)
theorem TV {a b:List Int} {K:J2} (h1:a.length≤100) (h2:b.length≤100) (h:K [] [tI a,tI b]):cl2 ⟨Tryz.prog,w0⟩ 185 GU.sg [] [tI a,tI b] K:=by
 refine GU.cl2 ?_
 unfold GU.txt
 rw [List.nil_append,List.nil_append]
 simp only [AI,AL,AH,AJ,AM,AE,AG,AR,AP,AN,AQ,AO,AS,AK,BD,BF,BI,BJ,BH,BG,BE,A1,AZ,AY,AX,A4,A5]
 exact EB (O1 _) (by first | omega | (simp only [cnt,List.length_nil];omega)) (EB (O1 _) (by first | omega | (simp only [cnt,List.length_nil];omega)) h)
theorem T1 {os:List A7} {b c d:List T} {cs col:List Int} {id:Int} {K:J2} (hol:os.length=8) (h1:cs.length=8) (h2:col.length=8) (hno:AB os id<0→K [.bool false] []) (hyes:0≤AB os id→K [.bool true] []):cl2 ⟨Tryz.prog,w0⟩ 191 GS.sg [I (AB os id)] [tR tO os,b,c,d,tI cs,tI col] K:=by
 refine GS.cl2 ?_
 unfold GS.txt
 simp only [AI,AL,AH,AJ,AM,AE,AG,AR,AP,AN,AQ,AO,AS,AK,BD,BF,BI,BJ,BH,BG,BE,A1,AZ,AY,AX,A4,A5]
 refine BL ?_
 have e1:(os.length:Int)=8:=by omega
 have e2:(cs.length:Int)=8:=by omega
 have e3:(col.length:Int)=8:=by omega
 by_cases hs:AB os id<0
 ·have:=hno hs
  repeat' (first | refine F8 ?_ | refine BM ?_ | refine HV (by first | with_reducible assumption | omega) ?_ | refine ME (by first | with_reducible assumption | omega) ?_ | refine CL (by first | with_reducible assumption | omega) rfl ?_ | refine CJ (by first | with_reducible assumption | omega) rfl ?_ | refine BL ?_)
  all_goals first | exact this | omega
 ·have:=hyes (by omega)
  have hk:=BU (l:=os) (id:=id) (by omega)
  obtain ⟨k,hkk⟩: ∃k,(AB os id).toNat=k:=⟨_,rfl⟩
  have hkI:AB os id=(k:Int):=by omega
  rw [hkk] at hk
  rw [hkI]
  have hkl:k<os.length:=by omega
  repeat' (first | refine MU (v:= .bool true) hkl (by simp [tO,hk.2.2.2.2.1]) ?_ | refine F8 ?_ | refine BM ?_ | refine HV (by first | with_reducible assumption | omega) ?_ | refine CL (by first | with_reducible assumption | omega) rfl ?_ | refine BL ?_ | refine AU (by omega) ?_)
  all_goals first | exact this | omega
theorem XE {os:List A7} {b c d:List T} {cs col:List Int} {id:Int} {K:J2} (hol:os.length=8) (h1:cs.length=8) (h2:col.length=8) (hno:AB os id<0→K [.bool false] []) (hyes:0≤AB os id→K [.bool true] []):cl2 ⟨Tryz.prog,w0⟩ 186 IV.sg [I (AB os id)] [tR tO os,b,c,d,tI cs,tI col] K:=by
 refine IV.cl2 ?_
 unfold IV.txt
 simp only [AI,AL,AH,AJ,AM,AE,AG,AR,AP,AN,AQ,AO,AS,AK,BD,BF,BI,BJ,BH,BG,BE,A1,AZ,AY,AX,A4,A5]
 refine BL ?_
 have e1:(os.length:Int)=8:=by omega
 have e2:(cs.length:Int)=8:=by omega
 have e3:(col.length:Int)=8:=by omega
 by_cases hs:AB os id<0
 ·have:=hno hs
  repeat' (first | refine DO ?_ | refine BM ?_ | refine HV (by first | with_reducible assumption | omega) ?_ | refine ME (by first | with_reducible assumption | omega) ?_ | refine CL (by first | with_reducible assumption | omega) rfl ?_ | refine CJ (by first | with_reducible assumption | omega) rfl ?_ | refine BL ?_)
  all_goals first | exact this | omega
 ·have:=hyes (by omega)
  have hk:=BU (l:=os) (id:=id) (by omega)
  obtain ⟨k,hkk⟩: ∃k,(AB os id).toNat=k:=⟨_,rfl⟩
  have hkI:AB os id=(k:Int):=by omega
  rw [hkk] at hk
  rw [hkI]
  have hkl:k<os.length:=by omega
  repeat' (first | refine MU (v:= .bool true) hkl (by simp [tO,hk.2.2.2.2.1]) ?_ | refine DO ?_ | refine BM ?_ | refine HV (by first | with_reducible assumption | omega) ?_ | refine CL (by first | with_reducible assumption | omega) rfl ?_ | refine BL ?_ | refine AU (by omega) ?_)
  all_goals first | exact this | omega
theorem nB {n i:Nat} (hi:i≤n) {K:Value→Value→Prop} (h:K (iv 0) (iv i)):scW n none (some (.int .i64 i)) K:=aU hi h
theorem bB {os:List A7} {b c' d:List T} {cs col:List Int} {s:Nat} {K:J2} (hol:os.length=8) (hof: ∀o∈os,OF o) (hs:s<8) (h1:cs.length=8) (h2:col.length=8) (hf: ∀i,i<8→F64 (gI cs i)) (h0:gI col s≠0) (h: ∀cs' col',L9 os 0 1 cs col cs' col' s→K [] [tI cs',tI col']):cl2 ⟨Tryz.prog,w0⟩ 188 G9.sg [I s] [tR tO os,b,c',d,tI cs,tI col] K:=by
 refine G9.cl2 ?_
 unfold G9.txt
 simp only [AI,AL,AH,AJ,AM,AE,AG,AR,AP,AN,AQ,AO,AS,AK,BD,BF,BI,BJ,BH,BG,BE,A1,AZ,AY,AX,A4,A5]
 refine AU (by omega) (bM (v:=0) (by omega) ?_)
 refine DK (α:=List Int×Nat×List Int×List Int×List Int) (fun q=>[iv q.2.2.1.length,iv q.2.1]) (fun q=>[tI q.1,tI q.2.2.2.1,tI q.2.2.2.2]) (fun q=>q.2.2.1.length+2*KX q.2.2.2.2 0) (fun q=>Vw q.1 q.2.1 q.2.2.1∧RI os 0 1 cs col s q.2.2.1 q.2.2.2.1 q.2.2.2.2) ([(s:Int)],0,[(s:Int)],cs,col.set s 0) rfl rfl ⟨Vw.new _,RI.start hs h1 h2 hf h0⟩ (fun R q hq hR=> ?_)
 obtain ⟨row,off,todo,cs1,col1⟩:=q
 obtain ⟨vw,wk⟩:=hq
 simp only at vw wk
 have hsz:=wk.sz
 have hbd:=vw.bd
 simp only [AI,AL,AH,AJ,AM,AE,AG,AR,AP,AN,AQ,AO,AS,AK,BD,BF,BI,BJ,BH,BG,BE,A1,AZ,AY,AX,A4,A5]
 simp only [A9]
 refine GN (AT (fun hlt=> ?_) fun hge=> ?_)
 ·have hlt:todo.length>0:=by omega
  obtain ⟨k,hk⟩: ∃k,(gI todo (todo.length-1)).toNat=k:=⟨_,rfl⟩
  obtain ⟨e1,k8,wj⟩:=wk.pop hlt hk
  have ev:((todo.length:Int)-1)=((todo.length-1:Nat):Int):=by omega
  refine DZ ⟨by omega,by omega⟩ ?_
  rw [ev]
  refine AU (by omega) ?_
  have eg:=vw.get (j:=todo.length-1) (by omega)
  have el:ldc (tI row) [] (off+AA (iv (todo.length-1))*1)=ldc (tI row) [] (AA (iv (off+(todo.length-1)))*1):=by rw [A9,A9];congr 1;omega
  rw [el]
  refine ldI (by omega) ?_
  rw [eg,e1]
  refine DZ ⟨by omega,by omega⟩ ?_
  rw [ev]
  refine nB (by omega) (PB hol hof k8 ?_)
  have hkl:=PZ hof (k:=k) (by omega)
  refine DK (α:=Nat×List Int×Nat×List Int×List Int×List Int) (fun q=>[iv q.2.2.2.1.length,iv q.2.2.1,iv q.1]) (fun q=>[tI q.2.1,tI (BY os k),tI q.2.2.2.2.1,tI q.2.2.2.2.2]) (fun q=>(BY os k).length-q.1) (fun q=>q.1≤(BY os k).length∧Vw q.2.1 q.2.2.1 q.2.2.2.1∧RW os 0 1 cs col s k q.1 q.2.2.2.1 q.2.2.2.2.1 q.2.2.2.2.2∧q.2.2.2.1.length+2*KX q.2.2.2.2.2 0<todo.length+2*KX col1 0) (0,row,off,todo.dropLast,cs1,col1) ?_ rfl ⟨Nat.zero_le _,vw.pop,wj,by simp only [List.length_dropLast];omega⟩ (fun R2 q hq hR2=> ?_)
  ·simp only [List.length_dropLast,A9,Nat.zero_mul,Nat.add_zero];rfl
  obtain ⟨j,row2,off2,todo2,cs2,col2⟩:=q
  obtain ⟨hj,vw2,wj2,hms⟩:=hq
  simp only at hj vw2 wj2 hms
  have hsz2:=wj2.sz
  have hbd2:=vw2.bd
  have hl2:=wj2.len
  simp only [AI,AL,AH,AJ,AM,AE,AG,AR,AP,AN,AQ,AO,AS,AK,BD,BF,BI,BJ,BH,BG,BE,A1,AZ,AY,AX,A4,A5]
  simp only [A9]
  refine AW (AT (fun hlj=> ?_) fun hgj=> ?_)
  ·have hlj:j<(BY os k).length:=by omega
   obtain ⟨x,hx⟩: ∃x,(gI (BY os k) j).toNat=x:=⟨_,rfl⟩
   obtain ⟨x1,x2,x3,_⟩:=EM (ER hlj)
   rw [hx] at x2 x3
   have xc:x<cs2.length:=by omega
   have xl:x<col2.length:=by omega
   refine BS (AU hlj (ldI hlj (AU hlj (ldI hlj ?_))))
   rw [x3]
   refine AU xc (ldI xc (FU (AU xc (bM xc (AU hlj (ldI hlj ?_))))))
   rw [x3]
   refine AU xl (ldI xl (CB (AT (fun hne=> ?_) fun heq=> ?_)))
   ·refine AU hlj (ldI hlj ?_)
    rw [x3]
    refine AU xl (bM (v:=0) xl (AU hlj (ldI hlj ?_)))
    rw [x3]
    have wn:=wj2.new hlj x3 hne
    have:=NO (a:=col2) (b:=col2.set x 0) (c:=0) x2 hne (by rw [FJ xl];simp) fun y _ hy=>by rw [FJ xl];split <;> first | rfl | exact hy
    refine EB rfl (by omega) (A6 (by omega) ?_)
    have:=hR2 (j+1,todo2++[(x:Int)],0,todo2++[(x:Int)],_,_) ⟨by simp only;omega,Vw.new _,wn,by simp only [List.length_append,List.length_singleton];omega⟩ (by simp only;omega)
    simp only [Nat.mul_one,SP,vw2.vw]
    have ea:tI todo2++[T.c (I (x:Int))]=tI (todo2++[(x:Int)]):=FE _ _
    rw [ea]
    simp only [AI,AL,AH,AJ,AM,AE,AG,AR,AP,AN,AQ,AO,AS,AK,BD,BF,BI,BJ,BH,BG,BE,A1,AZ,AY,AX,A4,A5]
    simp only [A9]
    exact this
   ·have heq:gI col2 x=0:=Decidable.not_not.1 heq
    have wo:=wj2.old hlj x3 heq
    refine A6 (by omega) ?_
    have:=hR2 (j+1,row2,off2,todo2,_,_) ⟨by simp only;omega,vw2,wo,hms⟩ (by simp only;omega)
    simp only [AI,AL,AH,AJ,AM,AE,AG,AR,AP,AN,AQ,AO,AS,AK,BD,BF,BI,BJ,BH,BG,BE,A1,AZ,AY,AX,A4,A5]
    simp only [A9]
    exact this
  ·have:j=(BY os k).length:=by omega
   subst this
   have:=hR (row2,off2,todo2,cs2,col2) ⟨vw2,wj2.stop⟩ hms
   exact this
 ·have:todo=[]:=List.length_eq_zero_iff.1 (by omega)
  subst this
  exact h _ _ wk.stop
theorem X0 {os:List A7} {b c' d:List T} {cs col:List Int} {id:Int} {K:J2} (hol:os.length=8) (hof: ∀o∈os,OF o) (h1:cs.length=8) (h2:col.length=8) (hf: ∀i,i<8→F64 (gI cs i)) (hno:AB os id<0→K [] [tI cs,tI col]) (h: ∀s:Nat,AB os id=s→s<8→ ∀cs' col',L9 os 1 (-1) cs col cs' col' s→K [] [tI cs',tI col']):cl2 ⟨Tryz.prog,w0⟩ 161 GB.sg [I (AB os id)] [tR tO os,b,c',d,tI cs,tI col] K:=by
 refine GB.cl2 ?_
 unfold GB.txt
 refine TV (by omega) (by omega) (XE hol h1 h2 (fun hs=> ?_) fun hs=> ?_)
 ·replace hno:=hno hs
  repeat' (first | refine BM ?_ | refine O7 ?_ | refine TL rfl ?_ | refine BQ ?_ | refine BP ?_ | simp only [AI,AL,AH,AJ,AM,AE,AG,AR,AP,AN,AQ,AO,AS,AK,BD,BF,BI,BJ,BH,BG,BE,A1,AZ,AY,AX,A4,A5])
  all_goals exact hno
 have hk:=BU hs
 obtain ⟨s,hss⟩: ∃s,(AB os id).toNat=s:=⟨_,rfl⟩
 have hsI:AB os id=(s:Int):=by omega
 have hs:s<8:=hss ▸ hk.2.2.2.1
 replace h:=h s hsI hs
 clear hno
 rw [hsI]
 refine BP ?_
 have hsl:s<col.length:=by omega
 simp only [AI,AL,AH,AJ,AM,AE,AG,AR,AP,AN,AQ,AO,AS,AK,BD,BF,BI,BJ,BH,BG,BE,A1,AZ,AY,AX,A4,A5]
 refine BM (BM (BM (M7 (AU hsl ?_))))
 refine M7 (ldI hsl (M7 (BL (UH rfl ?_))))
 refine AT (fun he=>h _ _ (L9.refl h1 h2 hf he)) fun h0=> ?_
 refine AU (by omega) (bM (v:=1) (by omega) ?_)
 refine DK (α:=List Int×Nat×List Int×List Int×List Int) (fun q=>[iv q.2.2.1.length,iv q.2.1]) (fun q=>[tI q.1,tI q.2.2.2.1,tI q.2.2.2.2]) (fun q=>q.2.2.1.length+2*KX q.2.2.2.2 1) (fun q=>Vw q.1 q.2.1 q.2.2.1∧RI os 1 (-1) cs col s q.2.2.1 q.2.2.2.1 q.2.2.2.2) ([(s:Int)],0,[(s:Int)],cs,col.set s 1) rfl rfl ⟨Vw.new _,RI.start hs h1 h2 hf h0⟩ (fun R q hq hR=> ?_)
 obtain ⟨row,off,todo,cs1,col1⟩:=q
 obtain ⟨vw,wk⟩:=hq
 simp only at vw wk
 have hsz:=wk.sz
 have hbd:=vw.bd
 simp only [AI,AL,AH,AJ,AM,AE,AG,AR,AP,AN,AQ,AO,AS,AK,BD,BF,BI,BJ,BH,BG,BE,A1,AZ,AY,AX,A4,A5]
 simp only [A9]
 refine GN (AT (fun hlt=> ?_) fun hge=> ?_)
 ·have hlt:todo.length>0:=by omega
  obtain ⟨k,hk⟩: ∃k,(gI todo (todo.length-1)).toNat=k:=⟨_,rfl⟩
  obtain ⟨e1,k8,wj⟩:=wk.pop hlt hk
  have ev:((todo.length:Int)-1)=((todo.length-1:Nat):Int):=by omega
  refine DZ ⟨by omega,by omega⟩ ?_
  rw [ev]
  refine AU (by omega) ?_
  have eg:=vw.get (j:=todo.length-1) (by omega)
  have el:ldc (tI row) [] (off+AA (iv (todo.length-1))*1)=ldc (tI row) [] (AA (iv (off+(todo.length-1)))*1):=by rw [A9,A9];congr 1;omega
  rw [el]
  refine ldI (by omega) ?_
  rw [eg,e1]
  refine DZ ⟨by omega,by omega⟩ ?_
  rw [ev]
  refine nB (by omega) (PB hol hof k8 ?_)
  have hkl:=PZ hof (k:=k) (by omega)
  refine DK (α:=Nat×List Int×Nat×List Int×List Int×List Int) (fun q=>[iv q.2.2.2.1.length,iv q.2.2.1,iv q.1]) (fun q=>[tI q.2.1,tI (BY os k),tI q.2.2.2.2.1,tI q.2.2.2.2.2]) (fun q=>(BY os k).length-q.1) (fun q=>q.1≤(BY os k).length∧Vw q.2.1 q.2.2.1 q.2.2.2.1∧RW os 1 (-1) cs col s k q.1 q.2.2.2.1 q.2.2.2.2.1 q.2.2.2.2.2∧q.2.2.2.1.length+2*KX q.2.2.2.2.2 1<todo.length+2*KX col1 1) (0,row,off,todo.dropLast,cs1,col1) ?_ rfl ⟨Nat.zero_le _,vw.pop,wj,by simp only [List.length_dropLast];omega⟩ (fun R2 q hq hR2=> ?_)
  ·simp only [List.length_dropLast,A9,Nat.zero_mul,Nat.add_zero];rfl
  obtain ⟨j,row2,off2,todo2,cs2,col2⟩:=q
  obtain ⟨hj,vw2,wj2,hms⟩:=hq
  simp only at hj vw2 wj2 hms
  have hsz2:=wj2.sz
  have hbd2:=vw2.bd
  have hl2:=wj2.len
  simp only [AI,AL,AH,AJ,AM,AE,AG,AR,AP,AN,AQ,AO,AS,AK,BD,BF,BI,BJ,BH,BG,BE,A1,AZ,AY,AX,A4,A5]
  simp only [A9]
  refine AW (AT (fun hlj=> ?_) fun hgj=> ?_)
  ·have hlj:j<(BY os k).length:=by omega
   obtain ⟨x,hx⟩: ∃x,(gI (BY os k) j).toNat=x:=⟨_,rfl⟩
   obtain ⟨x1,x2,x3,_⟩:=EM (ER hlj)
   rw [hx] at x2 x3
   have xc:x<cs2.length:=by omega
   have xl:x<col2.length:=by omega
   refine BS (AU hlj (ldI hlj (AU hlj (ldI hlj ?_))))
   rw [x3]
   refine AU xc (ldI xc (Z6 (AU xc (bM xc (AU hlj (ldI hlj ?_))))))
   rw [x3]
   refine AU xl (ldI xl (CB (AT (fun hne=> ?_) fun heq=> ?_)))
   ·refine AU hlj (ldI hlj ?_)
    rw [x3]
    refine AU xl (bM (v:=1) xl (AU hlj (ldI hlj ?_)))
    rw [x3]
    have wn:=wj2.new hlj x3 hne
    have:=NO (a:=col2) (b:=col2.set x 1) (c:=1) x2 hne (by rw [FJ xl];simp) fun y _ hy=>by rw [FJ xl];split <;> first | rfl | exact hy
    refine EB rfl (by omega) (A6 (by omega) ?_)
    have:=hR2 (j+1,todo2++[(x:Int)],0,todo2++[(x:Int)],_,_) ⟨by simp only;omega,Vw.new _,wn,by simp only [List.length_append,List.length_singleton];omega⟩ (by simp only;omega)
    simp only [Nat.mul_one,SP,vw2.vw]
    have ea:tI todo2++[T.c (I (x:Int))]=tI (todo2++[(x:Int)]):=FE _ _
    rw [ea]
    simp only [AI,AL,AH,AJ,AM,AE,AG,AR,AP,AN,AQ,AO,AS,AK,BD,BF,BI,BJ,BH,BG,BE,A1,AZ,AY,AX,A4,A5]
    simp only [A9]
    exact this
   ·have heq:gI col2 x=1:=Decidable.not_not.1 heq
    have wo:=wj2.old hlj x3 heq
    refine A6 (by omega) ?_
    have:=hR2 (j+1,row2,off2,todo2,_,_) ⟨by simp only;omega,vw2,wo,hms⟩ (by simp only;omega)
    simp only [AI,AL,AH,AJ,AM,AE,AG,AR,AP,AN,AQ,AO,AS,AK,BD,BF,BI,BJ,BH,BG,BE,A1,AZ,AY,AX,A4,A5]
    simp only [A9]
    exact this
  ·have:j=(BY os k).length:=by omega
   subst this
   have:=hR (row2,off2,todo2,cs2,col2) ⟨vw2,wj2.stop⟩ hms
   exact this
 ·have:todo=[]:=List.length_eq_zero_iff.1 (by omega)
  subst this
  exact h _ _ wk.stop
end Go.Proofs.YtnhicpkhkaihoaaGreat.P
