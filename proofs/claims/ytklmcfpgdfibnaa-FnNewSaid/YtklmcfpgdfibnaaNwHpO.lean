/- A part of the proof. -/
import Derived.Test.YtklmcfpgdfibnaaNwHpK
namespace Go.Proofs.Ytklmcfpgdfibnaa.P
open Go Go.Proofs.Ytklmcfpgdfibnaa Go.Proofs.Ytklmcfpgdfibnaa.Eng
set_option linter.unusedVariables false
theorem j5 (n:Int):w64 n=(n+9223372036854775808) % 18446744073709551616-9223372036854775808:=by
 simp only [w64,IntKind.wrap,IntKind.bits,IntKind.signed]
 simp
 split <;> omega
theorem LY (a b:Int):w64 (w64 a+b)=w64 (a+b):=by simp only [j5];omega
theorem gW (a:Int):F64 (w64 a):=by rw [j5];exact ⟨by omega,by omega⟩
def GF:Nat→(Nat→Int)→Int
 | 0,_=>0
 | n+1,f=>GF n f+f n
theorem KC {n:Nat} {f g:Nat→Int} (h: ∀k,k<n→f k=g k):GF n f=GF n g:=by
 induction n with
 | zero=>rfl
 | succ n ih=>simp only [GF];rw [ih fun k hk=>h k (by omega),h n (by omega)]
theorem SG {n k0:Nat} {f g:Nat→Int} (hk:k0<n) (h: ∀k,k<n→k≠k0→f k=g k):GF n g=GF n f+(g k0-f k0):=by
 induction n with
 | zero=>omega
 | succ n ih=>
   simp only [GF]
   by_cases he:k0=n
   ·subst he
    rw [KC (g:=g) fun k hk=>h k (by omega) (by omega)];omega
   ·rw [ih (by omega) fun k hk hne=>h k (by omega) hne,h n (by omega) (by omega)];omega
theorem jB {n:Nat} {f g:Nat→Int}:GF n (fun k=>f k+g k)=GF n f+GF n g:=by
 induction n with
 | zero=>rfl
 | succ n ih=>simp only [GF,ih];omega
theorem JK {n:Nat} {f:Nat→Int} (h: ∀k,k<n→f k=0):GF n f=0:=by
 induction n with
 | zero=>rfl
 | succ n ih=>simp only [GF];rw [ih fun k hk=>h k (by omega),h n (by omega)];rfl
theorem LD {n:Nat} {f g:Nat→Int} (h: ∀k,k<n→f k≤g k):GF n f≤GF n g:=by
 induction n with
 | zero=>exact Int.le_refl _
 | succ n ih=>simp only [GF];have:=ih fun k hk=>h k (by omega);have:=h n (by omega);omega
theorem DY {l:List Int} {i k:Nat} {v:Int} (hk:k<l.length):gI (l.set k v) i=if i=k then v else gI l i:=by
 unfold gI
 by_cases h:i=k
 ·subst h
  rw [if_pos rfl,List.getD_eq_getElem?_getD,List.getElem?_set_self hk];rfl
 ·rw [if_neg h,List.getD_eq_getElem?_getD,List.getElem?_set_ne (Ne.symm h),List.getD_eq_getElem?_getD]
def BM (os:List AU) (k:Nat):List Int:=((ob os k).field.map (AB os)).filter fun x=>decide (0≤x)
def E (os:List AU) (k i:Nat):Int:=((BM os k).count (i:Int):Nat)
theorem CQ {os:List AU} {k:Nat} {x:Int} (h:x∈BM os k):0≤x∧x.toNat<8∧x=(x.toNat:Int)∧os.length=8∧(ob os x.toNat).live=true:=by
 obtain ⟨h1,h2⟩:=List.mem_filter.1 h
 obtain ⟨f,_,rfl⟩:=List.mem_map.1 h1
 have h2:0≤AB os f:=by simpa using h2
 have:=BN h2
 exact ⟨h2,this.2.2.2.1,by omega,this.1,this.2.2.2.2.1⟩
theorem MZ {os:List AU} (hof: ∀o∈os,OF o) {k:Nat} (hk:k<os.length):(BM os k).length≤3:=by
 have:=List.length_filter_le (fun x=>decide (0≤x)) ((ob os k).field.map (AB os))
 rw [List.length_map,(hof _ (HR hk)).len] at this
 exact this
theorem RW (os:List AU) (k i:Nat):0≤E os k i:=Int.natCast_nonneg _
theorem qJ {os:List AU} {k i:Nat} (h:(i:Int)∉BM os k):E os k i=0:=by
 unfold E;rw [List.count_eq_zero.2 h];rfl
inductive Reach (os:List AU) (s:Nat):Nat→Prop
 | refl:Reach os s s
 | step {k:Nat} {j:Int}:Reach os s k→j∈BM os k→Reach os s j.toNat
theorem Reach.trans {os:List AU} {a b c:Nat} (h:Reach os a b) (g:Reach os b c):Reach os a c:=by
 induction g with
 | refl=>exact h
 | step _ hj ih=>exact .step ih hj
theorem Reach.closed {os:List AU} {P:Nat→Prop} {s k:Nat} (h:Reach os s k) (hs:P s) (hc: ∀k,P k→ ∀j∈BM os k,P j.toNat):P k:=by
 induction h with
 | refl=>exact hs
 | step _ hj ih=>exact hc _ ih _ hj
theorem Reach.lt {os:List AU} {s k:Nat} (h:Reach os s k) (hs:s<8):k<8:=h.closed (P:=fun k=>k<8) hs fun _ _ _ hj=>(CQ hj).2.1
def S (os:List AU) (P:Nat→Bool) (i:Nat):Int:=GF 8 fun k=>if P k then E os k i else 0
theorem gT {os:List AU} {P Q:Nat→Bool} {i:Nat} (h: ∀k,k<8→P k=Q k):S os P i=S os Q i:=KC fun k hk=>by rw [h k hk]
theorem mI {os:List AU} {P Q:Nat→Bool} {i k0:Nat} (hk:k0<8) (h0:P k0=false) (h1:Q k0=true) (h: ∀k,k<8→k≠k0→P k=Q k):S os Q i=S os P i+E os k0 i:=by
 unfold S
 rw [SG (n:=8) (f:=fun k=>if P k then E os k i else 0) (g:=fun k=>if Q k then E os k i else 0) hk fun k hk hne=>by rw [h k hk hne]]
 simp only [h0,h1];simp
theorem YF {os:List AU} {P:Nat→Bool} {i:Nat}:S os P i+S os (fun k=> !P k) i=S os (fun _=>true) i:=by
 unfold S
 rw [←jB]
 refine KC fun k hk=> ?_
 cases h:P k <;> simp [h]
def isC (col:List Int) (c:Int) (k:Nat):Bool:=decide (gI col k=c)
theorem PD {col:List Int} {c:Int} {k s:Nat} (hs:s<col.length):isC (col.set s c) c k=(decide (k=s)||isC col c k):=by
 unfold isC
 rw [DY hs]
 by_cases h:k=s
 ·simp [h]
 ·simp [h]
def I2 (col:List Int) (c:Int):Nat:=(GF 8 fun k=>if isC col c k then 0 else 1).toNat
theorem gA {a b:List Int} {c:Int} (h: ∀k,k<8→gI a k=c→gI b k=c):I2 b c≤I2 a c:=by
 have:GF 8 (fun k=>if isC b c k then 0 else 1)≤GF 8 (fun k=>if isC a c k then 0 else 1):=LD fun k hk=>by
  by_cases h1:gI a k=c
  ·simp [isC,h1,h k hk h1]
  ·by_cases h3:gI b k=c <;> simp [isC,h1,h3]
 unfold I2;omega
theorem KL {a b:List Int} {c:Int} {s:Nat} (hs:s<8) (h0:gI a s≠c) (h1:gI b s=c) (h: ∀k,k<8→gI a k=c→gI b k=c):I2 b c<I2 a c:=by
 have hle:GF 8 (fun k=>if isC b c k then 0 else 1)≤GF 8 (fun k=>if isC a c k∨k=s then 0 else 1):=LD fun k hk=>by
  by_cases h2:gI a k=c
  ·simp [isC,h2,h k hk h2]
  ·by_cases hks:k=s
   ·subst hks;simp [isC,h1]
   ·by_cases h3:gI b k=c <;> simp [isC,h2,h3,hks]
 have hu:=SG (n:=8) (k0:=s) (f:=fun k=>if isC a c k∨k=s then (0:Int) else 1) (g:=fun k=>if isC a c k then (0:Int) else 1) hs fun k hk hne=>by simp [hne]
 have e1:isC a c s=false:=by simp [isC,h0]
 simp only [e1,or_true,if_true] at hu
 have h3:0≤GF 8 (fun k=>if isC b c k then (0:Int) else 1):=by
  have:=LD (n:=8) (f:=fun _=>0) (g:=fun k=>if isC b c k then (0:Int) else 1) fun k hk=>by split <;> simp
  rw [JK (fun _ _=>rfl)] at this;exact this
 simp only [Bool.false_eq_true,if_false] at hu
 unfold I2;omega
theorem SD (col:List Int) (c:Int):I2 col c≤8:=by
 have:GF 8 (fun k=>if isC col c k then (0:Int) else 1)≤GF 8 (fun _=>1):=LD fun k hk=>by split <;> simp
 have e:GF 8 (fun _=>(1:Int))=8:=rfl
 unfold I2;omega
structure I3 (os:List AU) (c m:Int) (cs col cs' col':List Int) (s:Nat):Prop where
 len:cs'.length=8∧col'.length=8
 f: ∀i,i<8→F64 (gI cs' i)
 IL: ∀k,k<8→gI col k=c→gI col' k=c
 only: ∀k,k<8→gI col' k≠c→gI col' k=gI col k
 got:gI col' s=c
 clo: ∀k,k<8→gI col' k=c→gI col k≠c→Reach os s k∧ ∀j∈BM os k,gI col' j.toNat=c
 cnt: ∀i,i<8→gI cs' i=w64 (gI cs i+m*(S os (isC col' c) i-S os (isC col c) i))
theorem I3.refl {os:List AU} {c m:Int} {cs col:List Int} {s:Nat} (h1:cs.length=8) (h2:col.length=8) (hf: ∀i,i<8→F64 (gI cs i)) (hs:gI col s=c):I3 os c m cs col cs col s:=
 ⟨⟨h1,h2⟩,hf,fun _ _ h=>h,fun _ _ _=>rfl,hs,fun _ _ h1 h2=>absurd h1 h2,fun i hi=>by rw [Int.sub_self,Int.mul_zero,Int.add_zero,KF (hf i hi)]⟩
end Go.Proofs.Ytklmcfpgdfibnaa.P
namespace Go.Proofs.Ytklmcfpgdfibnaa.P
open Go Go.Proofs.Ytklmcfpgdfibnaa Go.Proofs.Ytklmcfpgdfibnaa.Eng
set_option linter.unusedVariables false
set_option maxHeartbeats 4000000
set_option linter.unusedVariables false
set_option linter.unusedSimpArgs false
attribute [local irreducible] prP gP gE gF AV ixW ldc ldg ldl stc stg scW mkW apW BL cl2 BS EC CX
variable {w0:World}
theorem XP {os:List AU} {l:List Int} {i:Nat} (hi:i<l.length):((l.take (i+1)).map (AB os)).filter (fun x=>decide (0≤x))=((l.take i).map (AB os)).filter (fun x=>decide (0≤x))++(if 0≤AB os (gI l i) then [AB os (gI l i)] else []):=by
 rw [List.take_succ_eq_append_getElem hi,List.map_append,List.filter_append,EE hi]
 congr 1
 by_cases h:0≤AB os (gI l i) <;> simp [h]
theorem OV {os:List AU} {b c d:List T} {k:Nat} {K:J2} (hol:os.length=8) (hof: ∀o∈os,OF o) (hk:k<8) (h:K [] [tI (BM os k)]):cl2 ⟨Try.prog,w0⟩ 118 D8.sg [I k] [tR tO os,b,c,d] K:=by
 have hkl:k<os.length:=by omega
 have ho:=hof _ (HR hkl)
 refine D8.cl2 ?_
 unfold D8.txt
 simp only [AG,AK,AN,AM,AI,AD,AE,AP,AO,AJ,AQ,AR,AL,AH,BE,BJ,BH,BG,BK,BI,BF,A4,A8,A7,A6,A5,AZ]
 refine AS hkl (OJ (f:=tO) (i:=k) hkl (by decide) rfl ?_)
 rw [G3 hkl,AD,ho.len]
 refine BD (fun i=>[iv (AA (iv k)*8+6),iv 3,iv i]) (fun i=>[tI ((((ob os k).field.take i).map (AB os)).filter fun x=>decide (0≤x))]) 3 (fun _=>True) rfl rfl trivial (fun R i hi hP hR=> ?_)
 have hln:=List.length_filter_le (fun x=>decide (0≤x)) (((ob os k).field.take i).map (AB os))
 have hl2:(((ob os k).field.take i).map (AB os)).length≤i:=by simp;omega
 simp only [AG,AK,AN,AM,AI,AD,AE,AP,AO,AJ,AQ,AR,AL,AH,BE,BJ,BH,BG,BK,BI,BF,A4,A8,A7,A6,A5,AZ]
 rw [AY (AA (iv k)*8+6),G3 hkl,AD]
 refine AX (AW (fun hlt=> ?_) fun hge=> ?_)
 ·have hlt:i<(ob os k).field.length:=by have:=ho.len;omega
  replace hR:=hR (by omega) trivial
  rw [XP hlt] at hR
  refine BO (AS hlt (MJ hkl hlt (C6 (ho.fld _ (DV hlt)) (by omega) (LO (AW (fun hs=> ?_) fun hs=> ?_)))))
  ·rw [if_pos hs, ←D6] at hR
   refine EH rfl (by omega) (BA (by omega) ?_)
   exact hR
  ·rw [if_neg hs,List.append_nil] at hR
   exact BA (by omega) hR
 ·have:i=3:=by omega
  subst this
  have e:(ob os k).field.take 3=(ob os k).field:=List.take_of_length_le (by rw [ho.len];omega)
  rw [e];exact h
theorem ME {os:List AU} {b c d:List T} {k:Nat} {K:J2} (hol:os.length=8) (hof: ∀o∈os,OF o) (hk:k<8) (h:K [] [tI (BM os k)]):cl2 ⟨Try.prog,w0⟩ 170 DP.sg [I k] [tR tO os,b,c,d] K:=by
 have hkl:k<os.length:=by omega
 have ho:=hof _ (HR hkl)
 refine DP.cl2 ?_
 unfold DP.txt
 simp only [AG,AK,AN,AM,AI,AD,AE,AP,AO,AJ,AQ,AR,AL,AH,BE,BJ,BH,BG,BK,BI,BF,A4,A8,A7,A6,A5,AZ]
 refine BD (fun i=>[I k,iv i]) (fun i=>[tI ((((ob os k).field.take i).map (AB os)).filter fun x=>decide (0≤x))]) 3 (fun _=>True) rfl rfl trivial (fun R i hi hP hR=> ?_)
 have hln:=List.length_filter_le (fun x=>decide (0≤x)) (((ob os k).field.take i).map (AB os))
 have hl2:(((ob os k).field.take i).map (AB os)).length≤i:=by simp;omega
 simp only [AG,AK,AN,AM,AI,AD,AE,AP,AO,AJ,AQ,AR,AL,AH,BE,BJ,BH,BG,BK,BI,BF,A4,A8,A7,A6,A5,AZ]
 refine AS hkl (OJ (f:=tO) (i:=k) hkl (by decide) rfl ?_)
 rw [G3 hkl,AD,ho.len]
 refine AX (AW (fun hlt=> ?_) fun hge=> ?_)
 ·have hlt:i<(ob os k).field.length:=by have:=ho.len;omega
  replace hR:=hR (by omega) trivial
  rw [XP hlt] at hR
  refine BO (AS hkl (OJ (f:=tO) (i:=k) hkl (by decide) rfl ?_))
  rw [G3 hkl,AD]
  refine AS hlt (MJ hkl hlt (CO (ho.fld _ (DV hlt)) (by omega) (LO (AW (fun hs=> ?_) fun hs=> ?_))))
  ·rw [if_pos hs, ←D6] at hR
   refine EH rfl (by omega) (BA (by omega) ?_)
   exact hR
  ·rw [if_neg hs,List.append_nil] at hR
   exact BA (by omega) hR
 ·have:i=3:=by omega
  subst this
  have e:(ob os k).field.take 3=(ob os k).field:=List.take_of_length_le (by rw [ho.len];omega)
  rw [e];exact h
theorem WK {l:List Int} {i:Nat} {v:Int} {K:List T→Prop} (hi:i<l.length) (h:K (tI (l.set i v))):stc (tI l) [] (AA (iv i)*1) (I v) K:=rK hi h
structure K9 (os:List AU) (c m:Int) (cs col:List Int) (s:Nat) (q:Nat×List Int×List Int):Prop where
 j:q.1≤(BM os s).length
 len:q.2.1.length=8∧q.2.2.length=8
 f: ∀i,i<8→F64 (gI q.2.1 i)
 IL: ∀k,k<8→gI col k=c∨k=s→gI q.2.2 k=c
 only: ∀k,k<8→gI q.2.2 k≠c→gI q.2.2 k=gI col k
 clo: ∀k,k<8→k≠s→gI q.2.2 k=c→gI col k≠c→Reach os s k∧ ∀j∈BM os k,gI q.2.2 j.toNat=c
 done: ∀x∈(BM os s).take q.1,gI q.2.2 x.toNat=c
 cnt: ∀i,i<8→gI q.2.1 i=w64 (gI cs i+m*(S os (isC q.2.2 c) i-S os (isC col c) i-(((BM os s).drop q.1).count (i:Int):Nat)))
theorem K9.start {os:List AU} {c m:Int} {cs col:List Int} {s:Nat} (hs:s<8) (h1:cs.length=8) (h2:col.length=8) (hf: ∀i,i<8→F64 (gI cs i)) (h0:gI col s≠c):K9 os c m cs col s (0,cs,col.set s c):=by
 refine ⟨Nat.zero_le _,⟨h1,by simpa using h2⟩,hf,fun k hk h=> ?_,fun k hk h=> ?_,fun k hk hne h3 h4=> ?_,fun x hx=>by simp at hx,fun i hi=> ?_⟩
 ·simp only;rw [DY (by omega)];split
  ·rfl
  ·rename_i hh;exact h.resolve_right hh
 ·simp only at h ⊢;rw [DY (by omega)] at h ⊢;split
  ·rename_i hh;rw [if_pos hh] at h;exact absurd rfl h
  ·rfl
 ·simp only at h3;rw [DY (by omega),if_neg hne] at h3;exact absurd h3 h4
 ·simp only
  have e:=mI (os:=os) (P:=isC col c) (Q:=isC (col.set s c) c) (i:=i) hs (by simp [isC,h0]) (by rw [PD (by omega)];simp) fun k hk hne=>by rw [PD (by omega)];simp [hne]
  rw [e,List.drop_zero]
  have:(((BM os s).count (i:Int):Nat):Int)=E os s i:=rfl
  rw [this]
  have e2:S os (isC col c) i+E os s i-S os (isC col c) i-E os s i=0:=by omega
  rw [e2,Int.mul_zero,Int.add_zero,KF (hf i hi)]
theorem K9.step {os:List AU} {c m:Int} {cs col:List Int} {s:Nat} {j:Nat} {cs1 col1 cs2 col2:List Int} (hs:s<8) (h:K9 os c m cs col s (j,cs1,col1)) (hj:j<(BM os s).length) (p:I3 os c m (cs1.set (gI (BM os s) j).toNat (w64 (gI cs1 (gI (BM os s) j).toNat+m))) col1 cs2 col2 (gI (BM os s) j).toNat):K9 os c m cs col s (j+1,cs2,col2):=by
 have hx:=CQ (DV hj)
 have l1:=h.len
 refine ⟨by simp only;omega,p.len,p.f,fun k hk hh=>p.IL k hk (h.IL k hk hh),fun k hk hne=> ?_,fun k hk hne h3 h4=> ?_,fun x hx=> ?_,fun i hi=> ?_⟩
 ·have e:=p.only k hk hne
  simp only at hne ⊢
  rw [e]
  exact h.only k hk (by simp only;rw [←e];exact hne)
 ·by_cases h5:gI col1 k=c
  ·obtain ⟨g1,g2⟩:=h.clo k hk hne h5 h4
   exact ⟨g1,fun y hy=>p.IL _ (CQ hy).2.1 (g2 y hy)⟩
  ·obtain ⟨g1,g2⟩:=p.clo k hk h3 h5
   exact ⟨Reach.trans (.step .refl (DV hj)) g1,g2⟩
 ·simp only at hx ⊢
  rw [List.take_succ_eq_append_getElem hj,List.mem_append,List.mem_singleton] at hx
  rcases hx with hx | rfl
  ·exact p.IL _ (CQ (List.mem_of_mem_take hx)).2.1 (h.done x hx)
  ·rw [EE hj];exact p.got
 ·have e1:=p.cnt i hi
  have e2:=h.cnt i hi
  simp only at e1 e2 ⊢
  rw [DY (by have:=h.len.1;simp only at this;omega)] at e1
  have e3:(((BM os s).drop j).count (i:Int):Int)=(if i=(gI (BM os s) j).toNat then 1 else 0)+(((BM os s).drop (j+1)).count (i:Int):Int):=by
   rw [drop_cons hj,List.count_cons]
   by_cases hh:i=(gI (BM os s) j).toNat
   ·have:(gI (BM os s) j==(i:Int))=true:=by simp;omega
    rw [if_pos hh,this];simp;omega
   ·have:(gI (BM os s) j==(i:Int))=false:=by simp;omega
    rw [if_neg hh,this];simp
  rw [e1]
  by_cases hh:i=(gI (BM os s) j).toNat
  ·rw [if_pos hh, ←hh,e2,LY,Int.add_assoc,LY]
   rw [if_pos hh] at e3
   congr 1
   rw [e3]
   generalize S os (isC col2 c) i=a
   generalize S os (isC col1 c) i=b
   generalize S os (isC col c) i=d
   generalize ((List.drop (j+1) (BM os s)).count (i:Int):Int)=e
   simp only [Int.mul_sub,Int.mul_add,Int.mul_one];omega
  ·rw [if_neg hh,e2,LY]
   rw [if_neg hh] at e3
   congr 1
   rw [e3]
   generalize S os (isC col2 c) i=a
   generalize S os (isC col1 c) i=b
   generalize S os (isC col c) i=d
   generalize ((List.drop (j+1) (BM os s)).count (i:Int):Int)=e
   simp only [Int.mul_sub,Int.mul_add,Int.mul_zero];omega
theorem K9.stop {os:List AU} {c m:Int} {cs col:List Int} {s:Nat} {cs1 col1:List Int} (hs:s<8) (h:K9 os c m cs col s ((BM os s).length,cs1,col1)):I3 os c m cs col cs1 col1 s:=by
 refine ⟨h.len,h.f,fun k hk hh=>h.IL k hk (.inl hh),h.only,h.IL s hs (.inr rfl),fun k hk h3 h4=> ?_,fun i hi=> ?_⟩
 ·by_cases hks:k=s
  ·subst hks
   exact ⟨.refl,fun y hy=>h.done y (by simp only;rw [List.take_length];exact hy)⟩
  ·exact h.clo k hk hks h3 h4
 ·have:=h.cnt i hi
  simp only [List.drop_length,List.count_nil] at this
  rw [this];simp
theorem QY {os:List AU} {b c' d:List T} {c m:Int} (hol:os.length=8) (hof: ∀o∈os,OF o) (hc:F64 c) (hm:F64 m): ∀(n:Nat) {cs col:List Int} {s:Nat} {K:J2},I2 col c≤n→s<8→cs.length=8→col.length=8→(∀i,i<8→F64 (gI cs i))→(∀cs' col',I3 os c m cs col cs' col' s→K [] [tI cs',tI col'])→cl2 ⟨Try.prog,w0⟩ 116 B1.sg [I s,I c,I m] [tI cs,tI col,tR tO os,b,c',d] K:=by
 intro n
 induction n with
 | zero=>
   intro cs col s K hn hs h1 h2 hf h
   refine B1.cl2 ?_
   unfold B1.txt
   simp only [AG,AK,AN,AM,AI,AD,AE,AP,AO,AJ,AQ,AR,AL,AH,BE,BJ,BH,BG,BK,BI,BF,A4,A8,A7,A6,A5,AZ]
   refine AS (by omega) (ldI (by omega) (BP (AW (fun he=>h _ _ (I3.refl h1 h2 hf he)) fun he=> ?_)))
   have:=KL (a:=col) (b:=col.set s c) (c:=c) hs he (by rw [DY (by omega)];simp) fun k hk hh=>by rw [DY (by omega)];split <;> first | rfl | exact hh
   exact absurd this (by omega)
 | succ n ih=>
   intro cs col s K hn hs h1 h2 hf h
   refine B1.cl2 ?_
   unfold B1.txt
   simp only [AG,AK,AN,AM,AI,AD,AE,AP,AO,AJ,AQ,AR,AL,AH,BE,BJ,BH,BG,BK,BI,BF,A4,A8,A7,A6,A5,AZ]
   refine AS (by omega) (ldI (by omega) (BP (AW (fun he=>h _ _ (I3.refl h1 h2 hf he)) fun he=> ?_)))
   refine AS (by omega) (WK (by omega) (OV hol hof hs ?_))
   simp only [AG,AK,AN,AM,AI,AD,AE,AP,AO,AJ,AQ,AR,AL,AH,BE,BJ,BH,BG,BK,BI,BF,A4,A8,A7,A6,A5,AZ]
   have hkl:=MZ hof (k:=s) (by omega)
   refine EI (α:=Nat×List Int×List Int) (fun q=>[I c,I m,iv (BM os s).length,iv q.1]) (fun q=>[tI (BM os s),tI q.2.1,tI q.2.2]) (fun q=>(BM os s).length-q.1) (K9 os c m cs col s) (0,cs,col.set s c) rfl rfl (K9.start hs h1 h2 hf he) (fun R q hq hR=> ?_)
   obtain ⟨j,cs1,col1⟩:=q
   have hj:=hq.j
   have hl:=hq.len
   simp only at hj hl
   simp only [AG,AK,AN,AM,AI,AD,AE,AP,AO,AJ,AQ,AR,AL,AH,BE,BJ,BH,BG,BK,BI,BF,A4,A8,A7,A6,A5,AZ]
   refine AX (AW (fun hlt=> ?_) fun hge=> ?_)
   ·have hlt:j<(BM os s).length:=by omega
    obtain ⟨x1,x2,x3,_⟩:=CQ (DV hlt)
    have hmiss:I2 col1 c≤n:=by
     have:=KL (a:=col) (b:=col1) (c:=c) hs he (hq.IL s hs (.inr rfl)) fun k hk hh=>hq.IL k hk (.inl hh)
     omega
    have stp:=fun cs2 col2=>K9.step (cs2:=cs2) (col2:=col2) hs hq hlt
    obtain ⟨x,hx⟩: ∃x,(gI (BM os s) j).toNat=x:=⟨_,rfl⟩
    rw [hx] at x2 x3 stp
    refine AS hlt (ldI hlt ?_)
    rw [x3]
    refine AS (by omega) (ldI (by omega) (F7 (AS (by omega) (WK (by omega) ?_))))
    refine ih hmiss x2 (by simpa using hl.1) hl.2 (fun i hi=> ?_) fun cs2 col2 p=> ?_
    ·rw [DY (by omega)];split
     ·exact gW _
     ·exact hq.f i hi
    ·exact BA (by omega) (hR (j+1,cs2,col2) (stp _ _ p) (by simp only;omega))
   ·have:j=(BM os s).length:=by omega
    subst this
    exact h _ _ (K9.stop hs hq)
end Go.Proofs.Ytklmcfpgdfibnaa.P
namespace Go.Proofs.Ytklmcfpgdfibnaa.P
open Go Go.Proofs.Ytklmcfpgdfibnaa Go.Proofs.Ytklmcfpgdfibnaa.Eng
set_option linter.unusedVariables false
set_option maxHeartbeats 4000000
set_option linter.unusedVariables false
set_option linter.unusedSimpArgs false
attribute [local irreducible] prP gP gE gF AV ixW ldc ldg ldl stc stg scW mkW apW BL cl2 BS EC CX
variable {w0:World}
def W (os:List AU):List Int→Nat→Int
 | [],_=>0
 | x::l,i=>E os x.toNat i+W os l i
theorem p7 (os:List AU) (a b:List Int) (i:Nat):W os (a++b) i=W os a i+W os b i:=by
 induction a with
 | nil=>simp [W]
 | cons x a ih=>simp only [List.cons_append,W,ih];omega
structure Vw (row:List Int) (off:Nat) (todo:List Int):Prop where
 bd:off+todo.length≤row.length
 vw:(row.drop off).take todo.length=todo
theorem Vw.get {row todo:List Int} {off j:Nat} (h:Vw row off todo) (hj:j<todo.length):gI row (off+j)=gI todo j:=by
 have e:=congrArg (fun l=>l[j]?) h.vw
 simp only [List.getElem?_take,hj,if_true,List.getElem?_drop] at e
 unfold gI
 rw [List.getD_eq_getElem?_getD,List.getD_eq_getElem?_getD,e]
theorem Vw.pop {row todo:List Int} {off:Nat} (h:Vw row off todo):Vw row off todo.dropLast:=by
 refine ⟨by have:=h.bd;rw [List.length_dropLast];omega, ?_⟩
 have e:=congrArg List.dropLast h.vw
 rw [List.dropLast_eq_take,List.take_take] at e
 rw [List.length_dropLast, ←e,List.length_take,List.length_drop]
 have:=h.bd
 congr 1;omega
theorem Vw.new (todo:List Int):Vw todo 0 todo:=⟨by omega,by simp⟩
theorem XN {todo:List Int} (h:todo.length>0):todo=todo.dropLast++[gI todo (todo.length-1)]:=by
 have hne:todo≠[]:=fun he=>by rw [he] at h;simp at h
 have:=(List.dropLast_concat_getLast hne).symm
 rw [List.getLast_eq_getElem hne,EE (by omega)] at this
 exact this
structure OI (os:List AU) (c m:Int) (cs0 col0:List Int) (s:Nat) (todo cs col:List Int):Prop where
 len:cs.length=8∧col.length=8
 f: ∀i,i<8→F64 (gI cs i)
 IL: ∀k,k<8→gI col0 k=c→gI col k=c
 only: ∀k,k<8→gI col k≠c→gI col k=gI col0 k
 got:gI col s=c
 td: ∀x∈todo,0≤x∧x.toNat<8∧gI col x.toNat=c∧gI col0 x.toNat≠c∧Reach os s x.toNat
 nd:todo.Nodup
 clo: ∀k,k<8→gI col k=c→gI col0 k≠c→Reach os s k∧((k:Int)∈todo∨ ∀j∈BM os k,gI col j.toNat=c)
 cnt: ∀i,i<8→gI cs i=w64 (gI cs0 i+m*(S os (isC col c) i-S os (isC col0 c) i-W os todo i))
 sz:todo.length+I2 col c≤8
structure OG (os:List AU) (c m:Int) (cs0 col0:List Int) (s:Nat) (k j:Nat) (todo cs col:List Int):Prop where
 len:cs.length=8∧col.length=8
 f: ∀i,i<8→F64 (gI cs i)
 IL: ∀k,k<8→gI col0 k=c→gI col k=c
 only: ∀k,k<8→gI col k≠c→gI col k=gI col0 k
 got:gI col s=c
 td: ∀x∈todo,0≤x∧x.toNat<8∧gI col x.toNat=c∧gI col0 x.toNat≠c∧Reach os s x.toNat
 nd:todo.Nodup
 me:k<8∧Reach os s k
 clo: ∀x,x<8→x≠k→gI col x=c→gI col0 x≠c→Reach os s x∧((x:Int)∈todo∨ ∀j∈BM os x,gI col j.toNat=c)
 done: ∀x∈(BM os k).take j,gI col x.toNat=c
 cnt: ∀i,i<8→gI cs i=w64 (gI cs0 i+m*(S os (isC col c) i-S os (isC col0 c) i-W os todo i-(((BM os k).drop j).count (i:Int):Nat)))
 sz:todo.length+I2 col c≤8
section
variable {os:List AU} {c m:Int} {cs0 col0 cs col todo:List Int} {s k j:Nat}
theorem OI.start (hs:s<8) (h1:cs0.length=8) (h2:col0.length=8) (hf: ∀i,i<8→F64 (gI cs0 i)) (h0:gI col0 s≠c):OI os c m cs0 col0 s [(s:Int)] cs0 (col0.set s c):=by
 have hkeep: ∀k,k<8→gI col0 k=c→gI (col0.set s c) k=c:=fun k hk h=>by rw [DY (by omega)];split <;> first | rfl | exact h
 have hgot:gI (col0.set s c) s=c:=by rw [DY (by omega)];simp
 refine ⟨⟨h1,by simpa using h2⟩,hf,hkeep,fun k hk h=> ?_,hgot,fun x hx=> ?_,by simp,fun k hk h3 h4=> ?_,fun i hi=> ?_, ?_⟩
 ·rw [DY (by omega)] at h ⊢;split
  ·rename_i hh;rw [if_pos hh] at h;exact absurd rfl h
  ·rfl
 ·have hx:x=(s:Int):=by simpa using hx
  subst hx
  rw [Int.toNat_natCast]
  exact ⟨by omega,hs,hgot,h0, .refl⟩
 ·rw [DY (by omega)] at h3
  by_cases hh:k=s
  ·subst hh;exact ⟨.refl, .inl (by simp)⟩
  ·rw [if_neg hh] at h3;exact absurd h3 h4
 ·have e:=mI (os:=os) (P:=isC col0 c) (Q:=isC (col0.set s c) c) (i:=i) hs (by simp [isC,h0]) (by rw [PD (by omega)];simp) fun k hk hne=>by rw [PD (by omega)];simp [hne]
  simp only [W,Int.toNat_natCast]
  rw [e]
  have e2:S os (isC col0 c) i+E os s i-S os (isC col0 c) i-(E os s i+0)=0:=by omega
  rw [e2,Int.mul_zero,Int.add_zero,KF (hf i hi)]
 ·have:=KL hs h0 hgot hkeep
  have:=SD col0 c
  simp only [List.length_singleton];omega
theorem OI.stop (h:OI os c m cs0 col0 s [] cs col):I3 os c m cs0 col0 cs col s:=
 ⟨h.len,h.f,h.IL,h.only,h.got,fun k hk h3 h4=>⟨(h.clo k hk h3 h4).1,(h.clo k hk h3 h4).2.resolve_left (by simp)⟩,fun i hi=>by have:=h.cnt i hi;simp only [W,Int.sub_zero] at this;exact this⟩
theorem OI.pop (h:OI os c m cs0 col0 s todo cs col) (hl:todo.length>0) (hk:(gI todo (todo.length-1)).toNat=k):gI todo (todo.length-1)=(k:Int)∧k<8∧OG os c m cs0 col0 s k 0 todo.dropLast cs col:=by
 have e:=XN hl
 have hm:gI todo (todo.length-1)∈todo:=DV (by omega)
 obtain ⟨t1,t2,t3,t4,t5⟩:=h.td _ hm
 rw [hk] at t2 t3 t4 t5
 have e2:gI todo (todo.length-1)=(k:Int):=by omega
 rw [e2] at e
 have hnd:=h.nd
 rw [e,List.nodup_append] at hnd
 refine ⟨e2,t2,h.len,h.f,h.IL,h.only,h.got,fun x hx=>h.td x (List.dropLast_subset _ hx),hnd.1,⟨t2,t5⟩,fun x hx hne h3 h4=> ?_,by simp,fun i hi=> ?_, ?_⟩
 ·obtain ⟨g1,g2⟩:=h.clo x hx h3 h4
  refine ⟨g1,g2.imp_left fun g=> ?_⟩
  rw [e,List.mem_append,List.mem_singleton] at g
  exact g.resolve_right (by omega)
 ·rw [h.cnt i hi]
  have:W os todo i=W os todo.dropLast i+E os k i:=by
   conv=>lhs;rw [e]
   rw [p7];simp [W]
  rw [this,List.drop_zero]
  congr 3
  have e3:(((BM os k).count (i:Int):Nat):Int)=E os k i:=rfl
  rw [e3];omega
 ·have:=h.sz
  rw [List.length_dropLast];omega
theorem OG.stop (h:OG os c m cs0 col0 s k (BM os k).length todo cs col):OI os c m cs0 col0 s todo cs col:=by
 refine ⟨h.len,h.f,h.IL,h.only,h.got,h.td,h.nd,fun x hx h3 h4=> ?_,fun i hi=> ?_,h.sz⟩
 ·by_cases hk:x=k
  ·subst hk
   exact ⟨h.me.2, .inr fun y hy=>h.done y (by rw [List.take_length];exact hy)⟩
  ·exact h.clo x hx hk h3 h4
 ·have:=h.cnt i hi
  simp only [List.drop_length,List.count_nil] at this
  rw [this];simp
theorem bK {l:List Int} {j i:Nat} {x:Nat} (hj:j<l.length) (hx:gI l j=(x:Int)):((l.drop j).count (i:Int):Int)=(if i=x then 1 else 0)+((l.drop (j+1)).count (i:Int):Int):=by
 rw [drop_cons hj,List.count_cons,hx]
 by_cases hh:i=x
 ·have:((x:Int)==(i:Int))=true:=by simp;omega
  rw [if_pos hh,this];simp;omega
 ·have:((x:Int)==(i:Int))=false:=by simp;omega
  rw [if_neg hh,this];simp
theorem OG.old (h:OG os c m cs0 col0 s k j todo cs col) (hj:j<(BM os k).length) {x:Nat} (hx:gI (BM os k) j=(x:Int)) (hc:gI col x=c):OG os c m cs0 col0 s k (j+1) todo (cs.set x (w64 (gI cs x+m))) col:=by
 have x8:x<8:=by have:=(CQ (DV hj)).2.1;rw [hx] at this;simpa using this
 have hl:=h.len
 refine ⟨⟨by simpa using hl.1,hl.2⟩,fun i hi=> ?_,h.IL,h.only,h.got,h.td,h.nd,h.me,h.clo,fun y hy=> ?_,fun i hi=> ?_,h.sz⟩
 ·rw [DY (by omega)];split
  ·exact gW _
  ·exact h.f i hi
 ·rw [List.take_succ_eq_append_getElem hj,List.mem_append,List.mem_singleton] at hy
  rcases hy with hy | rfl
  ·exact h.done y hy
  ·rw [EE hj,hx,Int.toNat_natCast];exact hc
 ·rw [DY (by omega)]
  have e2:=h.cnt i hi
  have e3:=bK (i:=i) hj hx
  by_cases hh:i=x
  ·rw [if_pos hh, ←hh,e2,LY]
   rw [if_pos hh] at e3
   congr 1
   rw [e3]
   generalize S os (isC col c) i=a
   generalize S os (isC col0 c) i=b
   generalize W os todo i=d
   generalize ((List.drop (j+1) (BM os k)).count (i:Int):Int)=e
   simp only [Int.mul_sub,Int.mul_add,Int.mul_one];omega
  ·rw [if_neg hh,e2]
   rw [if_neg hh] at e3
   rw [e3,Int.zero_add]
theorem OG.new (h:OG os c m cs0 col0 s k j todo cs col) (hj:j<(BM os k).length) {x:Nat} (hx:gI (BM os k) j=(x:Int)) (hc:gI col x≠c):OG os c m cs0 col0 s k (j+1) (todo++[(x:Int)]) (cs.set x (w64 (gI cs x+m))) (col.set x c):=by
 have x8:x<8:=by have:=(CQ (DV hj)).2.1;rw [hx] at this;simpa using this
 have hl:=h.len
 have hgot:gI (col.set x c) x=c:=by rw [DY (by omega)];simp
 have kp: ∀y,gI col y=c→gI (col.set x c) y=c:=fun y hy=>by rw [DY (by omega)];split <;> first | rfl | exact hy
 have hrx:Reach os s x:=by have:=Reach.step h.me.2 (DV hj);rw [hx] at this;simpa using this
 have h0x:gI col0 x≠c:=fun he=>hc (h.IL x x8 he)
 refine ⟨⟨by simpa using hl.1,by simpa using hl.2⟩,fun i hi=> ?_,fun y hy he=>kp y (h.IL y hy he),fun y hy he=> ?_,kp s h.got,fun y hy=> ?_, ?_,h.me,fun y hy hne h3 h4=> ?_,fun y hy=> ?_,fun i hi=> ?_, ?_⟩
 ·rw [DY (by omega)];split
  ·exact gW _
  ·exact h.f i hi
 ·rw [DY (by omega)] at he ⊢
  split
  ·rename_i hh;rw [if_pos hh] at he;exact absurd rfl he
  ·rename_i hh;rw [if_neg hh] at he;exact h.only y hy he
 ·rw [List.mem_append,List.mem_singleton] at hy
  rcases hy with hy | rfl
  ·obtain ⟨a1,a2,a3,a4,a5⟩:=h.td y hy
   exact ⟨a1,a2,kp _ a3,a4,a5⟩
  ·rw [Int.toNat_natCast]
   exact ⟨by omega,x8,hgot,h0x,hrx⟩
 ·rw [List.nodup_append]
  refine ⟨h.nd,by simp,fun a ha b hb=> ?_⟩
  have hb:b=(x:Int):=by simpa using hb
  subst hb
  intro he
  subst he
  exact hc (by have:=(h.td _ ha).2.2.1;rwa [Int.toNat_natCast] at this)
 ·by_cases hyx:y=x
  ·subst hyx;exact ⟨hrx, .inl (by simp)⟩
  ·rw [DY (by omega),if_neg hyx] at h3
   obtain ⟨g1,g2⟩:=h.clo y hy hne h3 h4
   exact ⟨g1,g2.elim (fun g=> .inl (List.mem_append_left _ g)) fun g=> .inr fun z hz=>kp _ (g z hz)⟩
 ·rw [List.take_succ_eq_append_getElem hj,List.mem_append,List.mem_singleton] at hy
  rcases hy with hy | rfl
  ·exact kp _ (h.done y hy)
  ·rw [EE hj,hx,Int.toNat_natCast];exact hgot
 ·rw [DY (by omega)]
  have e2:=h.cnt i hi
  have e3:=bK (i:=i) hj hx
  have e:=mI (os:=os) (P:=isC col c) (Q:=isC (col.set x c) c) (i:=i) x8 (by simp [isC,hc]) (by rw [PD (by omega)];simp) fun k hk hne=>by rw [PD (by omega)];simp [hne]
  have ew:W os (todo++[(x:Int)]) i=W os todo i+E os x i:=by rw [p7];simp [W]
  rw [e,ew]
  by_cases hh:i=x
  ·rw [if_pos hh, ←hh,e2,LY]
   rw [if_pos hh] at e3
   congr 1
   rw [e3,hh]
   generalize S os (isC col c) x=a
   generalize S os (isC col0 c) x=b
   generalize W os todo x=d
   generalize E os x x=g
   generalize ((List.drop (j+1) (BM os k)).count (x:Int):Int)=e
   have:a+g-b-(d+g)-e=a-b-d-(1+e)+1:=by omega
   rw [this,Int.mul_add,Int.mul_one];omega
  ·rw [if_neg hh,e2]
   rw [if_neg hh] at e3
   rw [e3]
   congr 3
   omega
 ·have:=KL (c:=c) x8 hc hgot fun y _ hy=>kp y hy
  have:=h.sz
  simp only [List.length_append,List.length_singleton];omega
end
end Go.Proofs.Ytklmcfpgdfibnaa.P
namespace Go.Proofs.Ytklmcfpgdfibnaa.P
open Go Go.Proofs.Ytklmcfpgdfibnaa Go.Proofs.Ytklmcfpgdfibnaa.Eng
set_option linter.unusedVariables false
set_option maxHeartbeats 4000000
set_option linter.unusedVariables false
set_option linter.unusedSimpArgs false
attribute [local irreducible] prP gP gE gF AV ixW ldc ldg ldl stc stg scW mkW apW BL cl2 BS EC CX
variable {w0:World}
theorem NC {a b:List Int} {K:J2} (h1:a.length≤100) (h2:b.length≤100) (h:K [] [tI a,tI b]):cl2 ⟨Try.prog,w0⟩ 114 CZ.sg [] [tI a,tI b] K:=by
 refine CZ.cl2 ?_
 unfold CZ.txt
 exact HE (by omega) (HE (by omega) h)
theorem P1 {a b:List Int} {K:J2} (h1:a.length≤100) (h2:b.length≤100) (h:K [] [tI a,tI b]):cl2 ⟨Try.prog,w0⟩ 168 FA.sg [] [tI a,tI b] K:=by
 refine FA.cl2 ?_
 unfold FA.txt
 rw [List.nil_append,List.nil_append]
 simp only [AG,AK,AN,AM,AI,AD,AE,AP,AO,AJ,AQ,AR,AL,AH,BE,BJ,BH,BG,BK,BI,BF,A4,A8,A7,A6,A5,AZ]
 exact EH (LZ _) (by first | omega | (simp only [cnt,List.length_nil];omega)) (EH (LZ _) (by first | omega | (simp only [cnt,List.length_nil];omega)) h)
theorem P2 {os:List AU} {b c d:List T} {cs col:List Int} {id:Int} {K:J2} (hol:os.length=8) (h1:cs.length=8) (h2:col.length=8) (hno:AB os id<0→K [.bool false] []) (hyes:0≤AB os id→K [.bool true] []):cl2 ⟨Try.prog,w0⟩ 115 FB.sg [I (AB os id)] [tR tO os,b,c,d,tI cs,tI col] K:=by
 refine FB.cl2 ?_
 unfold FB.txt
 simp only [AG,AK,AN,AM,AI,AD,AE,AP,AO,AJ,AQ,AR,AL,AH,BE,BJ,BH,BG,BK,BI,BF,A4,A8,A7,A6,A5,AZ]
 refine BP ?_
 have e1:(os.length:Int)=8:=by omega
 have e2:(cs.length:Int)=8:=by omega
 have e3:(col.length:Int)=8:=by omega
 by_cases hs:AB os id<0
 ·have:=hno hs
  repeat' (first | refine IT ?_ | refine BW ?_ | refine HV (by first | with_reducible assumption | omega) ?_ | refine LA (by first | with_reducible assumption | omega) ?_ | refine DX (by first | with_reducible assumption | omega) rfl ?_ | refine DW (by first | with_reducible assumption | omega) rfl ?_ | refine BP ?_)
  all_goals first | exact this | omega
 ·have:=hyes (by omega)
  have hk:=BN (l:=os) (id:=id) (by omega)
  obtain ⟨k,hkk⟩: ∃k,(AB os id).toNat=k:=⟨_,rfl⟩
  have hkI:AB os id=(k:Int):=by omega
  rw [hkk] at hk
  rw [hkI]
  have hkl:k<os.length:=by omega
  repeat' (first | refine J1 (v:= .bool true) hkl (by simp [tO,hk.2.2.2.2.1]) ?_ | refine IT ?_ | refine BW ?_ | refine HV (by first | with_reducible assumption | omega) ?_ | refine DX (by first | with_reducible assumption | omega) rfl ?_ | refine BP ?_ | refine AS (by omega) ?_)
  all_goals first | exact this | omega
theorem S8 {os:List AU} {b c d:List T} {cs col:List Int} {id:Int} {K:J2} (hol:os.length=8) (h1:cs.length=8) (h2:col.length=8) (hno:AB os id<0→K [.bool false] []) (hyes:0≤AB os id→K [.bool true] []):cl2 ⟨Try.prog,w0⟩ 169 GP.sg [I (AB os id)] [tR tO os,b,c,d,tI cs,tI col] K:=by
 refine GP.cl2 ?_
 unfold GP.txt
 simp only [AG,AK,AN,AM,AI,AD,AE,AP,AO,AJ,AQ,AR,AL,AH,BE,BJ,BH,BG,BK,BI,BF,A4,A8,A7,A6,A5,AZ]
 refine BP ?_
 have e1:(os.length:Int)=8:=by omega
 have e2:(cs.length:Int)=8:=by omega
 have e3:(col.length:Int)=8:=by omega
 by_cases hs:AB os id<0
 ·have:=hno hs
  repeat' (first | refine DS ?_ | refine BW ?_ | refine HV (by first | with_reducible assumption | omega) ?_ | refine LA (by first | with_reducible assumption | omega) ?_ | refine DX (by first | with_reducible assumption | omega) rfl ?_ | refine DW (by first | with_reducible assumption | omega) rfl ?_ | refine BP ?_)
  all_goals first | exact this | omega
 ·have:=hyes (by omega)
  have hk:=BN (l:=os) (id:=id) (by omega)
  obtain ⟨k,hkk⟩: ∃k,(AB os id).toNat=k:=⟨_,rfl⟩
  have hkI:AB os id=(k:Int):=by omega
  rw [hkk] at hk
  rw [hkI]
  have hkl:k<os.length:=by omega
  repeat' (first | refine J1 (v:= .bool true) hkl (by simp [tO,hk.2.2.2.2.1]) ?_ | refine DS ?_ | refine BW ?_ | refine HV (by first | with_reducible assumption | omega) ?_ | refine DX (by first | with_reducible assumption | omega) rfl ?_ | refine BP ?_ | refine AS (by omega) ?_)
  all_goals first | exact this | omega
theorem cB {n i:Nat} (hi:i≤n) {K:Value→Value→Prop} (h:K (iv 0) (iv i)):scW n none (some (.int .i64 i)) K:=l9 hi h
theorem VD {os:List AU} {b c' d:List T} {cs col:List Int} {s:Nat} {K:J2} (hol:os.length=8) (hof: ∀o∈os,OF o) (hs:s<8) (h1:cs.length=8) (h2:col.length=8) (hf: ∀i,i<8→F64 (gI cs i)) (h0:gI col s≠0) (h: ∀cs' col',I3 os 0 1 cs col cs' col' s→K [] [tI cs',tI col']):cl2 ⟨Try.prog,w0⟩ 171 FN.sg [I s] [tR tO os,b,c',d,tI cs,tI col] K:=by
 refine FN.cl2 ?_
 unfold FN.txt
 simp only [AG,AK,AN,AM,AI,AD,AE,AP,AO,AJ,AQ,AR,AL,AH,BE,BJ,BH,BG,BK,BI,BF,A4,A8,A7,A6,A5,AZ]
 refine AS (by omega) (WK (v:=0) (by omega) ?_)
 refine EI (α:=List Int×Nat×List Int×List Int×List Int) (fun q=>[iv q.2.2.1.length,iv q.2.1]) (fun q=>[tI q.1,tI q.2.2.2.1,tI q.2.2.2.2]) (fun q=>q.2.2.1.length+2*I2 q.2.2.2.2 0) (fun q=>Vw q.1 q.2.1 q.2.2.1∧OI os 0 1 cs col s q.2.2.1 q.2.2.2.1 q.2.2.2.2) ([(s:Int)],0,[(s:Int)],cs,col.set s 0) rfl rfl ⟨Vw.new _,OI.start hs h1 h2 hf h0⟩ (fun R q hq hR=> ?_)
 obtain ⟨row,off,todo,cs1,col1⟩:=q
 obtain ⟨vw,wk⟩:=hq
 simp only at vw wk
 have hsz:=wk.sz
 have hbd:=vw.bd
 simp only [AG,AK,AN,AM,AI,AD,AE,AP,AO,AJ,AQ,AR,AL,AH,BE,BJ,BH,BG,BK,BI,BF,A4,A8,A7,A6,A5,AZ]
 simp only [AY]
 refine IJ (AW (fun hlt=> ?_) fun hge=> ?_)
 ·have hlt:todo.length>0:=by omega
  obtain ⟨k,hk⟩: ∃k,(gI todo (todo.length-1)).toNat=k:=⟨_,rfl⟩
  obtain ⟨e1,k8,wj⟩:=wk.pop hlt hk
  have ev:((todo.length:Int)-1)=((todo.length-1:Nat):Int):=by omega
  refine H8 ⟨by omega,by omega⟩ ?_
  rw [ev]
  refine AS (by omega) ?_
  have eg:=vw.get (j:=todo.length-1) (by omega)
  have el:ldc (tI row) [] (off+AA (iv (todo.length-1))*1)=ldc (tI row) [] (AA (iv (off+(todo.length-1)))*1):=by rw [AY,AY];congr 1;omega
  rw [el]
  refine ldI (by omega) ?_
  rw [eg,e1]
  refine H8 ⟨by omega,by omega⟩ ?_
  rw [ev]
  refine cB (by omega) (ME hol hof k8 ?_)
  have hkl:=MZ hof (k:=k) (by omega)
  refine EI (α:=Nat×List Int×Nat×List Int×List Int×List Int) (fun q=>[iv q.2.2.2.1.length,iv q.2.2.1,iv q.1]) (fun q=>[tI q.2.1,tI (BM os k),tI q.2.2.2.2.1,tI q.2.2.2.2.2]) (fun q=>(BM os k).length-q.1) (fun q=>q.1≤(BM os k).length∧Vw q.2.1 q.2.2.1 q.2.2.2.1∧OG os 0 1 cs col s k q.1 q.2.2.2.1 q.2.2.2.2.1 q.2.2.2.2.2∧q.2.2.2.1.length+2*I2 q.2.2.2.2.2 0<todo.length+2*I2 col1 0) (0,row,off,todo.dropLast,cs1,col1) ?_ rfl ⟨Nat.zero_le _,vw.pop,wj,by simp only [List.length_dropLast];omega⟩ (fun R2 q hq hR2=> ?_)
  ·simp only [List.length_dropLast,AY,Nat.zero_mul,Nat.add_zero];rfl
  obtain ⟨j,row2,off2,todo2,cs2,col2⟩:=q
  obtain ⟨hj,vw2,wj2,hms⟩:=hq
  simp only at hj vw2 wj2 hms
  have hsz2:=wj2.sz
  have hbd2:=vw2.bd
  have hl2:=wj2.len
  simp only [AG,AK,AN,AM,AI,AD,AE,AP,AO,AJ,AQ,AR,AL,AH,BE,BJ,BH,BG,BK,BI,BF,A4,A8,A7,A6,A5,AZ]
  simp only [AY]
  refine AX (AW (fun hlj=> ?_) fun hgj=> ?_)
  ·have hlj:j<(BM os k).length:=by omega
   obtain ⟨x,hx⟩: ∃x,(gI (BM os k) j).toNat=x:=⟨_,rfl⟩
   obtain ⟨x1,x2,x3,_⟩:=CQ (DV hlj)
   rw [hx] at x2 x3
   have xc:x<cs2.length:=by omega
   have xl:x<col2.length:=by omega
   refine BO (AS hlj (ldI hlj (AS hlj (ldI hlj ?_))))
   rw [x3]
   refine AS xc (ldI xc (F7 (AS xc (WK xc (AS hlj (ldI hlj ?_))))))
   rw [x3]
   refine AS xl (ldI xl (CN (AW (fun hne=> ?_) fun heq=> ?_)))
   ·refine AS hlj (ldI hlj ?_)
    rw [x3]
    refine AS xl (WK (v:=0) xl (AS hlj (ldI hlj ?_)))
    rw [x3]
    have wn:=wj2.new hlj x3 hne
    have:=KL (a:=col2) (b:=col2.set x 0) (c:=0) x2 hne (by rw [DY xl];simp) fun y _ hy=>by rw [DY xl];split <;> first | rfl | exact hy
    refine EH rfl (by omega) (BA (by omega) ?_)
    have:=hR2 (j+1,todo2++[(x:Int)],0,todo2++[(x:Int)],_,_) ⟨by simp only;omega,Vw.new _,wn,by simp only [List.length_append,List.length_singleton];omega⟩ (by simp only;omega)
    simp only [Nat.mul_one,ON,vw2.vw]
    have ea:tI todo2++[T.c (I (x:Int))]=tI (todo2++[(x:Int)]):=D6 _ _
    rw [ea]
    simp only [AG,AK,AN,AM,AI,AD,AE,AP,AO,AJ,AQ,AR,AL,AH,BE,BJ,BH,BG,BK,BI,BF,A4,A8,A7,A6,A5,AZ]
    simp only [AY]
    exact this
   ·have heq:gI col2 x=0:=Decidable.not_not.1 heq
    have wo:=wj2.old hlj x3 heq
    refine BA (by omega) ?_
    have:=hR2 (j+1,row2,off2,todo2,_,_) ⟨by simp only;omega,vw2,wo,hms⟩ (by simp only;omega)
    simp only [AG,AK,AN,AM,AI,AD,AE,AP,AO,AJ,AQ,AR,AL,AH,BE,BJ,BH,BG,BK,BI,BF,A4,A8,A7,A6,A5,AZ]
    simp only [AY]
    exact this
  ·have:j=(BM os k).length:=by omega
   subst this
   have:=hR (row2,off2,todo2,cs2,col2) ⟨vw2,wj2.stop⟩ hms
   exact this
 ·have:todo=[]:=List.length_eq_zero_iff.1 (by omega)
  subst this
  exact h _ _ wk.stop
theorem TG {os:List AU} {b c' d:List T} {cs col:List Int} {id:Int} {K:J2} (hol:os.length=8) (hof: ∀o∈os,OF o) (h1:cs.length=8) (h2:col.length=8) (hf: ∀i,i<8→F64 (gI cs i)) (hno:AB os id<0→K [] [tI cs,tI col]) (h: ∀s:Nat,AB os id=s→s<8→ ∀cs' col',I3 os 1 (-1) cs col cs' col' s→K [] [tI cs',tI col']):cl2 ⟨Try.prog,w0⟩ 156 EM.sg [I (AB os id)] [tR tO os,b,c',d,tI cs,tI col] K:=by
 refine EM.cl2 ?_
 unfold EM.txt
 refine P1 (by omega) (by omega) (S8 hol h1 h2 (fun hs=> ?_) fun hs=> ?_)
 ·replace hno:=hno hs
  repeat' (first | refine BW ?_ | refine SV ?_ | refine VF rfl ?_ | refine B6 ?_ | refine CT ?_ | simp only [AG,AK,AN,AM,AI,AD,AE,AP,AO,AJ,AQ,AR,AL,AH,BE,BJ,BH,BG,BK,BI,BF,A4,A8,A7,A6,A5,AZ])
  all_goals exact hno
 have hk:=BN hs
 obtain ⟨s,hss⟩: ∃s,(AB os id).toNat=s:=⟨_,rfl⟩
 have hsI:AB os id=(s:Int):=by omega
 have hs:s<8:=hss ▸ hk.2.2.2.1
 replace h:=h s hsI hs
 clear hno
 rw [hsI]
 refine CT ?_
 have hsl:s<col.length:=by omega
 simp only [AG,AK,AN,AM,AI,AD,AE,AP,AO,AJ,AQ,AR,AL,AH,BE,BJ,BH,BG,BK,BI,BF,A4,A8,A7,A6,A5,AZ]
 refine BW (BW (BW (OZ (AS hsl ?_))))
 refine OZ (ldI hsl (OZ (BP (cF rfl ?_))))
 refine AW (fun he=>h _ _ (I3.refl h1 h2 hf he)) fun h0=> ?_
 refine AS (by omega) (WK (v:=1) (by omega) ?_)
 refine EI (α:=List Int×Nat×List Int×List Int×List Int) (fun q=>[iv q.2.2.1.length,iv q.2.1]) (fun q=>[tI q.1,tI q.2.2.2.1,tI q.2.2.2.2]) (fun q=>q.2.2.1.length+2*I2 q.2.2.2.2 1) (fun q=>Vw q.1 q.2.1 q.2.2.1∧OI os 1 (-1) cs col s q.2.2.1 q.2.2.2.1 q.2.2.2.2) ([(s:Int)],0,[(s:Int)],cs,col.set s 1) rfl rfl ⟨Vw.new _,OI.start hs h1 h2 hf h0⟩ (fun R q hq hR=> ?_)
 obtain ⟨row,off,todo,cs1,col1⟩:=q
 obtain ⟨vw,wk⟩:=hq
 simp only at vw wk
 have hsz:=wk.sz
 have hbd:=vw.bd
 simp only [AG,AK,AN,AM,AI,AD,AE,AP,AO,AJ,AQ,AR,AL,AH,BE,BJ,BH,BG,BK,BI,BF,A4,A8,A7,A6,A5,AZ]
 simp only [AY]
 refine IJ (AW (fun hlt=> ?_) fun hge=> ?_)
 ·have hlt:todo.length>0:=by omega
  obtain ⟨k,hk⟩: ∃k,(gI todo (todo.length-1)).toNat=k:=⟨_,rfl⟩
  obtain ⟨e1,k8,wj⟩:=wk.pop hlt hk
  have ev:((todo.length:Int)-1)=((todo.length-1:Nat):Int):=by omega
  refine H8 ⟨by omega,by omega⟩ ?_
  rw [ev]
  refine AS (by omega) ?_
  have eg:=vw.get (j:=todo.length-1) (by omega)
  have el:ldc (tI row) [] (off+AA (iv (todo.length-1))*1)=ldc (tI row) [] (AA (iv (off+(todo.length-1)))*1):=by rw [AY,AY];congr 1;omega
  rw [el]
  refine ldI (by omega) ?_
  rw [eg,e1]
  refine H8 ⟨by omega,by omega⟩ ?_
  rw [ev]
  refine cB (by omega) (ME hol hof k8 ?_)
  have hkl:=MZ hof (k:=k) (by omega)
  refine EI (α:=Nat×List Int×Nat×List Int×List Int×List Int) (fun q=>[iv q.2.2.2.1.length,iv q.2.2.1,iv q.1]) (fun q=>[tI q.2.1,tI (BM os k),tI q.2.2.2.2.1,tI q.2.2.2.2.2]) (fun q=>(BM os k).length-q.1) (fun q=>q.1≤(BM os k).length∧Vw q.2.1 q.2.2.1 q.2.2.2.1∧OG os 1 (-1) cs col s k q.1 q.2.2.2.1 q.2.2.2.2.1 q.2.2.2.2.2∧q.2.2.2.1.length+2*I2 q.2.2.2.2.2 1<todo.length+2*I2 col1 1) (0,row,off,todo.dropLast,cs1,col1) ?_ rfl ⟨Nat.zero_le _,vw.pop,wj,by simp only [List.length_dropLast];omega⟩ (fun R2 q hq hR2=> ?_)
  ·simp only [List.length_dropLast,AY,Nat.zero_mul,Nat.add_zero];rfl
  obtain ⟨j,row2,off2,todo2,cs2,col2⟩:=q
  obtain ⟨hj,vw2,wj2,hms⟩:=hq
  simp only at hj vw2 wj2 hms
  have hsz2:=wj2.sz
  have hbd2:=vw2.bd
  have hl2:=wj2.len
  simp only [AG,AK,AN,AM,AI,AD,AE,AP,AO,AJ,AQ,AR,AL,AH,BE,BJ,BH,BG,BK,BI,BF,A4,A8,A7,A6,A5,AZ]
  simp only [AY]
  refine AX (AW (fun hlj=> ?_) fun hgj=> ?_)
  ·have hlj:j<(BM os k).length:=by omega
   obtain ⟨x,hx⟩: ∃x,(gI (BM os k) j).toNat=x:=⟨_,rfl⟩
   obtain ⟨x1,x2,x3,_⟩:=CQ (DV hlj)
   rw [hx] at x2 x3
   have xc:x<cs2.length:=by omega
   have xl:x<col2.length:=by omega
   refine BO (AS hlj (ldI hlj (AS hlj (ldI hlj ?_))))
   rw [x3]
   refine AS xc (ldI xc (VH (AS xc (WK xc (AS hlj (ldI hlj ?_))))))
   rw [x3]
   refine AS xl (ldI xl (CN (AW (fun hne=> ?_) fun heq=> ?_)))
   ·refine AS hlj (ldI hlj ?_)
    rw [x3]
    refine AS xl (WK (v:=1) xl (AS hlj (ldI hlj ?_)))
    rw [x3]
    have wn:=wj2.new hlj x3 hne
    have:=KL (a:=col2) (b:=col2.set x 1) (c:=1) x2 hne (by rw [DY xl];simp) fun y _ hy=>by rw [DY xl];split <;> first | rfl | exact hy
    refine EH rfl (by omega) (BA (by omega) ?_)
    have:=hR2 (j+1,todo2++[(x:Int)],0,todo2++[(x:Int)],_,_) ⟨by simp only;omega,Vw.new _,wn,by simp only [List.length_append,List.length_singleton];omega⟩ (by simp only;omega)
    simp only [Nat.mul_one,ON,vw2.vw]
    have ea:tI todo2++[T.c (I (x:Int))]=tI (todo2++[(x:Int)]):=D6 _ _
    rw [ea]
    simp only [AG,AK,AN,AM,AI,AD,AE,AP,AO,AJ,AQ,AR,AL,AH,BE,BJ,BH,BG,BK,BI,BF,A4,A8,A7,A6,A5,AZ]
    simp only [AY]
    exact this
   ·have heq:gI col2 x=1:=Decidable.not_not.1 heq
    have wo:=wj2.old hlj x3 heq
    refine BA (by omega) ?_
    have:=hR2 (j+1,row2,off2,todo2,_,_) ⟨by simp only;omega,vw2,wo,hms⟩ (by simp only;omega)
    simp only [AG,AK,AN,AM,AI,AD,AE,AP,AO,AJ,AQ,AR,AL,AH,BE,BJ,BH,BG,BK,BI,BF,A4,A8,A7,A6,A5,AZ]
    simp only [AY]
    exact this
  ·have:j=(BM os k).length:=by omega
   subst this
   have:=hR (row2,off2,todo2,cs2,col2) ⟨vw2,wj2.stop⟩ hms
   exact this
 ·have:todo=[]:=List.length_eq_zero_iff.1 (by omega)
  subst this
  exact h _ _ wk.stop
end Go.Proofs.Ytklmcfpgdfibnaa.P
