/- A part of the proof. -/
import Derived.Test.YtnhicpkhkaihoaaGreatFaHpK
namespace Go.Proofs.YtnhicpkhkaihoaaGreat.P
open Go Go.Proofs.YtnhicpkhkaihoaaGreat Go.Proofs.YtnhicpkhkaihoaaGreat.Eng
set_option linter.unusedVariables false
theorem wM (n:Int):w64 n=(n+9223372036854775808) % 18446744073709551616-9223372036854775808:=by
 simp only [w64,IntKind.wrap,IntKind.bits,IntKind.signed]
 simp
 split <;> omega
theorem PS (a b:Int):w64 (w64 a+b)=w64 (a+b):=by simp only [wM];omega
theorem lA (a:Int):F64 (w64 a):=by rw [wM];exact ⟨by omega,by omega⟩
def I2:Nat→(Nat→Int)→Int
 | 0,_=>0
 | n+1,f=>I2 n f+f n
theorem NK {n:Nat} {f g:Nat→Int} (h: ∀k,k<n→f k=g k):I2 n f=I2 n g:=by
 induction n with
 | zero=>rfl
 | succ n ih=>simp only [I2];rw [ih fun k hk=>h k (by omega),h n (by omega)]
theorem W5 {n k0:Nat} {f g:Nat→Int} (hk:k0<n) (h: ∀k,k<n→k≠k0→f k=g k):I2 n g=I2 n f+(g k0-f k0):=by
 induction n with
 | zero=>omega
 | succ n ih=>
   simp only [I2]
   by_cases he:k0=n
   ·subst he
    rw [NK (g:=g) fun k hk=>h k (by omega) (by omega)];omega
   ·rw [ih (by omega) fun k hk hne=>h k (by omega) hne,h n (by omega) (by omega)];omega
theorem sA {n:Nat} {f g:Nat→Int}:I2 n (fun k=>f k+g k)=I2 n f+I2 n g:=by
 induction n with
 | zero=>rfl
 | succ n ih=>simp only [I2,ih];omega
theorem MS {n:Nat} {f:Nat→Int} (h: ∀k,k<n→f k=0):I2 n f=0:=by
 induction n with
 | zero=>rfl
 | succ n ih=>simp only [I2];rw [ih fun k hk=>h k (by omega),h n (by omega)];rfl
theorem OC {n:Nat} {f g:Nat→Int} (h: ∀k,k<n→f k≤g k):I2 n f≤I2 n g:=by
 induction n with
 | zero=>exact Int.le_refl _
 | succ n ih=>simp only [I2];have:=ih fun k hk=>h k (by omega);have:=h n (by omega);omega
theorem FT {l:List Int} {i k:Nat} {v:Int} (hk:k<l.length):gI (l.set k v) i=if i=k then v else gI l i:=by
 unfold gI
 by_cases h:i=k
 ·subst h
  rw [if_pos rfl,List.getD_eq_getElem?_getD,List.getElem?_set_self hk];rfl
 ·rw [if_neg h,List.getD_eq_getElem?_getD,List.getElem?_set_ne (Ne.symm h),List.getD_eq_getElem?_getD]
def BZ (os:List A7) (k:Nat):List Int:=((ob os k).field.map (AD os)).filter fun x=>decide (0≤x)
def E (os:List A7) (k i:Nat):Int:=((BZ os k).count (i:Int):Nat)
theorem FA {os:List A7} {k:Nat} {x:Int} (h:x∈BZ os k):0≤x∧x.toNat<8∧x=(x.toNat:Int)∧os.length=8∧(ob os x.toNat).live=true:=by
 obtain ⟨h1,h2⟩:=List.mem_filter.1 h
 obtain ⟨f,_,rfl⟩:=List.mem_map.1 h1
 have h2:0≤AD os f:=by simpa using h2
 have:=BV h2
 exact ⟨h2,this.2.2.2.1,by omega,this.1,this.2.2.2.2.1⟩
theorem P6 {os:List A7} (hof: ∀o∈os,OF o) {k:Nat} (hk:k<os.length):(BZ os k).length≤3:=by
 have:=List.length_filter_le (fun x=>decide (0≤x)) ((ob os k).field.map (AD os))
 rw [List.length_map,(hof _ (IM hk)).len] at this
 exact this
theorem VE (os:List A7) (k i:Nat):0≤E os k i:=Int.natCast_nonneg _
theorem Bx {os:List A7} {k i:Nat} (h:(i:Int)∉BZ os k):E os k i=0:=by
 unfold E;rw [List.count_eq_zero.2 h];rfl
inductive Reach (os:List A7) (s:Nat):Nat→Prop
 | refl:Reach os s s
 | step {k:Nat} {j:Int}:Reach os s k→j∈BZ os k→Reach os s j.toNat
theorem Reach.trans {os:List A7} {a b c:Nat} (h:Reach os a b) (g:Reach os b c):Reach os a c:=by
 induction g with
 | refl=>exact h
 | step _ hj ih=>exact .step ih hj
theorem Reach.closed {os:List A7} {P:Nat→Prop} {s k:Nat} (h:Reach os s k) (hs:P s) (hc: ∀k,P k→ ∀j∈BZ os k,P j.toNat):P k:=by
 induction h with
 | refl=>exact hs
 | step _ hj ih=>exact hc _ ih _ hj
theorem Reach.lt {os:List A7} {s k:Nat} (h:Reach os s k) (hs:s<8):k<8:=h.closed (P:=fun k=>k<8) hs fun _ _ _ hj=>(FA hj).2.1
def S (os:List A7) (P:Nat→Bool) (i:Nat):Int:=I2 8 fun k=>if P k then E os k i else 0
theorem qM {os:List A7} {P Q:Nat→Bool} {i:Nat} (h: ∀k,k<8→P k=Q k):S os P i=S os Q i:=NK fun k hk=>by rw [h k hk]
theorem tV {os:List A7} {P Q:Nat→Bool} {i k0:Nat} (hk:k0<8) (h0:P k0=false) (h1:Q k0=true) (h: ∀k,k<8→k≠k0→P k=Q k):S os Q i=S os P i+E os k0 i:=by
 unfold S
 rw [W5 (n:=8) (f:=fun k=>if P k then E os k i else 0) (g:=fun k=>if Q k then E os k i else 0) hk fun k hk hne=>by rw [h k hk hne]]
 simp only [h0,h1];simp
theorem iI {os:List A7} {P:Nat→Bool} {i:Nat}:S os P i+S os (fun k=> !P k) i=S os (fun _=>true) i:=by
 unfold S
 rw [←sA]
 refine NK fun k hk=> ?_
 cases h:P k <;> simp [h]
def isC (col:List Int) (c:Int) (k:Nat):Bool:=decide (gI col k=c)
theorem TY {col:List Int} {c:Int} {k s:Nat} (hs:s<col.length):isC (col.set s c) c k=(decide (k=s)||isC col c k):=by
 unfold isC
 rw [FT hs]
 by_cases h:k=s
 ·simp [h]
 ·simp [h]
def KD (col:List Int) (c:Int):Nat:=(I2 8 fun k=>if isC col c k then 0 else 1).toNat
theorem pK {a b:List Int} {c:Int} (h: ∀k,k<8→gI a k=c→gI b k=c):KD b c≤KD a c:=by
 have:I2 8 (fun k=>if isC b c k then 0 else 1)≤I2 8 (fun k=>if isC a c k then 0 else 1):=OC fun k hk=>by
  by_cases h1:gI a k=c
  ·simp [isC,h1,h k hk h1]
  ·by_cases h3:gI b k=c <;> simp [isC,h1,h3]
 unfold KD;omega
theorem NZ {a b:List Int} {c:Int} {s:Nat} (hs:s<8) (h0:gI a s≠c) (h1:gI b s=c) (h: ∀k,k<8→gI a k=c→gI b k=c):KD b c<KD a c:=by
 have hle:I2 8 (fun k=>if isC b c k then 0 else 1)≤I2 8 (fun k=>if isC a c k∨k=s then 0 else 1):=OC fun k hk=>by
  by_cases h2:gI a k=c
  ·simp [isC,h2,h k hk h2]
  ·by_cases hks:k=s
   ·subst hks;simp [isC,h1]
   ·by_cases h3:gI b k=c <;> simp [isC,h2,h3,hks]
 have hu:=W5 (n:=8) (k0:=s) (f:=fun k=>if isC a c k∨k=s then (0:Int) else 1) (g:=fun k=>if isC a c k then (0:Int) else 1) hs fun k hk hne=>by simp [hne]
 have e1:isC a c s=false:=by simp [isC,h0]
 simp only [e1,or_true,if_true] at hu
 have h3:0≤I2 8 (fun k=>if isC b c k then (0:Int) else 1):=by
  have:=OC (n:=8) (f:=fun _=>0) (g:=fun k=>if isC b c k then (0:Int) else 1) fun k hk=>by split <;> simp
  rw [MS (fun _ _=>rfl)] at this;exact this
 simp only [Bool.false_eq_true,if_false] at hu
 unfold KD;omega
theorem WU (col:List Int) (c:Int):KD col c≤8:=by
 have:I2 8 (fun k=>if isC col c k then (0:Int) else 1)≤I2 8 (fun _=>1):=OC fun k hk=>by split <;> simp
 have e:I2 8 (fun _=>(1:Int))=8:=rfl
 unfold KD;omega
structure MG (os:List A7) (c m:Int) (cs col cs' col':List Int) (s:Nat):Prop where
 len:cs'.length=8∧col'.length=8
 f: ∀i,i<8→F64 (gI cs' i)
 OH: ∀k,k<8→gI col k=c→gI col' k=c
 only: ∀k,k<8→gI col' k≠c→gI col' k=gI col k
 got:gI col' s=c
 clo: ∀k,k<8→gI col' k=c→gI col k≠c→Reach os s k∧ ∀j∈BZ os k,gI col' j.toNat=c
 cnt: ∀i,i<8→gI cs' i=w64 (gI cs i+m*(S os (isC col' c) i-S os (isC col c) i))
theorem MG.refl {os:List A7} {c m:Int} {cs col:List Int} {s:Nat} (h1:cs.length=8) (h2:col.length=8) (hf: ∀i,i<8→F64 (gI cs i)) (hs:gI col s=c):MG os c m cs col cs col s:=
 ⟨⟨h1,h2⟩,hf,fun _ _ h=>h,fun _ _ _=>rfl,hs,fun _ _ h1 h2=>absurd h1 h2,fun i hi=>by rw [Int.sub_self,Int.mul_zero,Int.add_zero,OG (hf i hi)]⟩
end Go.Proofs.YtnhicpkhkaihoaaGreat.P
namespace Go.Proofs.YtnhicpkhkaihoaaGreat.P
open Go Go.Proofs.YtnhicpkhkaihoaaGreat Go.Proofs.YtnhicpkhkaihoaaGreat.Eng
set_option linter.unusedVariables false
set_option maxHeartbeats 4000000
set_option linter.unusedVariables false
set_option linter.unusedSimpArgs false
attribute [local irreducible] prP gP gE gF AU ixW ldc ldg ldl stc stg scW mkW apW BG cl2 BX GP CZ
variable {w0:World}
theorem eV {os:List A7} {l:List Int} {i:Nat} (hi:i<l.length):((l.take (i+1)).map (AD os)).filter (fun x=>decide (0≤x))=((l.take i).map (AD os)).filter (fun x=>decide (0≤x))++(if 0≤AD os (gI l i) then [AD os (gI l i)] else []):=by
 rw [List.take_succ_eq_append_getElem hi,List.map_append,List.filter_append,GD hi]
 congr 1
 by_cases h:0≤AD os (gI l i) <;> simp [h]
theorem SB {os:List A7} {b c d:List T} {k:Nat} {K:J2} (hol:os.length=8) (hof: ∀o∈os,OF o) (hk:k<8) (h:K [] [tI (BZ os k)]):cl2 ⟨Tryz.prog,w0⟩ 194 FN.sg [I k] [tR tO os,b,c,d] K:=by
 have hkl:k<os.length:=by omega
 have ho:=hof _ (IM hkl)
 refine FN.cl2 ?_
 unfold FN.txt
 simp only [AK,AS,AJ,AI,AM,AE,AH,AN,AO,AP,AL,AR,AT,AQ,BB,BE,BI,BH,BK,BJ,BF,AX,A4,AY,A1,AZ,A5]
 refine AW hkl (R1 (f:=tO) (i:=k) hkl (by decide) rfl ?_)
 rw [I5 hkl,AE,ho.len]
 refine A9 (fun i=>[iv (AA (iv k)*8+6),iv 3,iv i]) (fun i=>[tI ((((ob os k).field.take i).map (AD os)).filter fun x=>decide (0≤x))]) 3 (fun _=>True) rfl rfl trivial (fun R i hi hP hR=> ?_)
 have hln:=List.length_filter_le (fun x=>decide (0≤x)) (((ob os k).field.take i).map (AD os))
 have hl2:(((ob os k).field.take i).map (AD os)).length≤i:=by simp;omega
 simp only [AK,AS,AJ,AI,AM,AE,AH,AN,AO,AP,AL,AR,AT,AQ,BB,BE,BI,BH,BK,BJ,BF,AX,A4,AY,A1,AZ,A5]
 rw [A8 (AA (iv k)*8+6),I5 hkl,AE]
 refine AV (AG (fun hlt=> ?_) fun hge=> ?_)
 ·have hlt:i<(ob os k).field.length:=by have:=ho.len;omega
  replace hR:=hR (by omega) trivial
  rw [eV hlt] at hR
  refine BS (AW hlt (OL hkl hlt (DC (ho.fld _ (FD hlt)) (by omega) (JA (AG (fun hs=> ?_) fun hs=> ?_)))))
  ·rw [if_pos hs, ←E9] at hR
   refine DP rfl (by omega) (A6 (by omega) ?_)
   exact hR
  ·rw [if_neg hs,List.append_nil] at hR
   exact A6 (by omega) hR
 ·have:i=3:=by omega
  subst this
  have e:(ob os k).field.take 3=(ob os k).field:=List.take_of_length_le (by rw [ho.len];omega)
  rw [e];exact h
theorem PY {os:List A7} {b c d:List T} {k:Nat} {K:J2} (hol:os.length=8) (hof: ∀o∈os,OF o) (hk:k<8) (h:K [] [tI (BZ os k)]):cl2 ⟨Tryz.prog,w0⟩ 187 FF.sg [I k] [tR tO os,b,c,d] K:=by
 have hkl:k<os.length:=by omega
 have ho:=hof _ (IM hkl)
 refine FF.cl2 ?_
 unfold FF.txt
 simp only [AK,AS,AJ,AI,AM,AE,AH,AN,AO,AP,AL,AR,AT,AQ,BB,BE,BI,BH,BK,BJ,BF,AX,A4,AY,A1,AZ,A5]
 refine A9 (fun i=>[I k,iv i]) (fun i=>[tI ((((ob os k).field.take i).map (AD os)).filter fun x=>decide (0≤x))]) 3 (fun _=>True) rfl rfl trivial (fun R i hi hP hR=> ?_)
 have hln:=List.length_filter_le (fun x=>decide (0≤x)) (((ob os k).field.take i).map (AD os))
 have hl2:(((ob os k).field.take i).map (AD os)).length≤i:=by simp;omega
 simp only [AK,AS,AJ,AI,AM,AE,AH,AN,AO,AP,AL,AR,AT,AQ,BB,BE,BI,BH,BK,BJ,BF,AX,A4,AY,A1,AZ,A5]
 refine AW hkl (R1 (f:=tO) (i:=k) hkl (by decide) rfl ?_)
 rw [I5 hkl,AE,ho.len]
 refine AV (AG (fun hlt=> ?_) fun hge=> ?_)
 ·have hlt:i<(ob os k).field.length:=by have:=ho.len;omega
  replace hR:=hR (by omega) trivial
  rw [eV hlt] at hR
  refine BS (AW hkl (R1 (f:=tO) (i:=k) hkl (by decide) rfl ?_))
  rw [I5 hkl,AE]
  refine AW hlt (OL hkl hlt (DB (ho.fld _ (FD hlt)) (by omega) (JA (AG (fun hs=> ?_) fun hs=> ?_))))
  ·rw [if_pos hs, ←E9] at hR
   refine DP rfl (by omega) (A6 (by omega) ?_)
   exact hR
  ·rw [if_neg hs,List.append_nil] at hR
   exact A6 (by omega) hR
 ·have:i=3:=by omega
  subst this
  have e:(ob os k).field.take 3=(ob os k).field:=List.take_of_length_le (by rw [ho.len];omega)
  rw [e];exact h
theorem cP {l:List Int} {i:Nat} {v:Int} {K:List T→Prop} (hi:i<l.length) (h:K (tI (l.set i v))):stc (tI l) [] (AA (iv i)*1) (I v) K:=Ct hi h
structure O2 (os:List A7) (c m:Int) (cs col:List Int) (s:Nat) (q:Nat×List Int×List Int):Prop where
 j:q.1≤(BZ os s).length
 len:q.2.1.length=8∧q.2.2.length=8
 f: ∀i,i<8→F64 (gI q.2.1 i)
 OH: ∀k,k<8→gI col k=c∨k=s→gI q.2.2 k=c
 only: ∀k,k<8→gI q.2.2 k≠c→gI q.2.2 k=gI col k
 clo: ∀k,k<8→k≠s→gI q.2.2 k=c→gI col k≠c→Reach os s k∧ ∀j∈BZ os k,gI q.2.2 j.toNat=c
 done: ∀x∈(BZ os s).take q.1,gI q.2.2 x.toNat=c
 cnt: ∀i,i<8→gI q.2.1 i=w64 (gI cs i+m*(S os (isC q.2.2 c) i-S os (isC col c) i-(((BZ os s).drop q.1).count (i:Int):Nat)))
theorem O2.start {os:List A7} {c m:Int} {cs col:List Int} {s:Nat} (hs:s<8) (h1:cs.length=8) (h2:col.length=8) (hf: ∀i,i<8→F64 (gI cs i)) (h0:gI col s≠c):O2 os c m cs col s (0,cs,col.set s c):=by
 refine ⟨Nat.zero_le _,⟨h1,by simpa using h2⟩,hf,fun k hk h=> ?_,fun k hk h=> ?_,fun k hk hne h3 h4=> ?_,fun x hx=>by simp at hx,fun i hi=> ?_⟩
 ·simp only;rw [FT (by omega)];split
  ·rfl
  ·rename_i hh;exact h.resolve_right hh
 ·simp only at h ⊢;rw [FT (by omega)] at h ⊢;split
  ·rename_i hh;rw [if_pos hh] at h;exact absurd rfl h
  ·rfl
 ·simp only at h3;rw [FT (by omega),if_neg hne] at h3;exact absurd h3 h4
 ·simp only
  have e:=tV (os:=os) (P:=isC col c) (Q:=isC (col.set s c) c) (i:=i) hs (by simp [isC,h0]) (by rw [TY (by omega)];simp) fun k hk hne=>by rw [TY (by omega)];simp [hne]
  rw [e,List.drop_zero]
  have:(((BZ os s).count (i:Int):Nat):Int)=E os s i:=rfl
  rw [this]
  have e2:S os (isC col c) i+E os s i-S os (isC col c) i-E os s i=0:=by omega
  rw [e2,Int.mul_zero,Int.add_zero,OG (hf i hi)]
theorem O2.step {os:List A7} {c m:Int} {cs col:List Int} {s:Nat} {j:Nat} {cs1 col1 cs2 col2:List Int} (hs:s<8) (h:O2 os c m cs col s (j,cs1,col1)) (hj:j<(BZ os s).length) (p:MG os c m (cs1.set (gI (BZ os s) j).toNat (w64 (gI cs1 (gI (BZ os s) j).toNat+m))) col1 cs2 col2 (gI (BZ os s) j).toNat):O2 os c m cs col s (j+1,cs2,col2):=by
 have hx:=FA (FD hj)
 have l1:=h.len
 refine ⟨by simp only;omega,p.len,p.f,fun k hk hh=>p.OH k hk (h.OH k hk hh),fun k hk hne=> ?_,fun k hk hne h3 h4=> ?_,fun x hx=> ?_,fun i hi=> ?_⟩
 ·have e:=p.only k hk hne
  simp only at hne ⊢
  rw [e]
  exact h.only k hk (by simp only;rw [←e];exact hne)
 ·by_cases h5:gI col1 k=c
  ·obtain ⟨g1,g2⟩:=h.clo k hk hne h5 h4
   exact ⟨g1,fun y hy=>p.OH _ (FA hy).2.1 (g2 y hy)⟩
  ·obtain ⟨g1,g2⟩:=p.clo k hk h3 h5
   exact ⟨Reach.trans (.step .refl (FD hj)) g1,g2⟩
 ·simp only at hx ⊢
  rw [List.take_succ_eq_append_getElem hj,List.mem_append,List.mem_singleton] at hx
  rcases hx with hx | rfl
  ·exact p.OH _ (FA (List.mem_of_mem_take hx)).2.1 (h.done x hx)
  ·rw [GD hj];exact p.got
 ·have e1:=p.cnt i hi
  have e2:=h.cnt i hi
  simp only at e1 e2 ⊢
  rw [FT (by have:=h.len.1;simp only at this;omega)] at e1
  have e3:(((BZ os s).drop j).count (i:Int):Int)=(if i=(gI (BZ os s) j).toNat then 1 else 0)+(((BZ os s).drop (j+1)).count (i:Int):Int):=by
   rw [drop_cons hj,List.count_cons]
   by_cases hh:i=(gI (BZ os s) j).toNat
   ·have:(gI (BZ os s) j==(i:Int))=true:=by simp;omega
    rw [if_pos hh,this];simp;omega
   ·have:(gI (BZ os s) j==(i:Int))=false:=by simp;omega
    rw [if_neg hh,this];simp
  rw [e1]
  by_cases hh:i=(gI (BZ os s) j).toNat
  ·rw [if_pos hh, ←hh,e2,PS,Int.add_assoc,PS]
   rw [if_pos hh] at e3
   congr 1
   rw [e3]
   generalize S os (isC col2 c) i=a
   generalize S os (isC col1 c) i=b
   generalize S os (isC col c) i=d
   generalize ((List.drop (j+1) (BZ os s)).count (i:Int):Int)=e
   simp only [Int.mul_sub,Int.mul_add,Int.mul_one];omega
  ·rw [if_neg hh,e2,PS]
   rw [if_neg hh] at e3
   congr 1
   rw [e3]
   generalize S os (isC col2 c) i=a
   generalize S os (isC col1 c) i=b
   generalize S os (isC col c) i=d
   generalize ((List.drop (j+1) (BZ os s)).count (i:Int):Int)=e
   simp only [Int.mul_sub,Int.mul_add,Int.mul_zero];omega
theorem O2.stop {os:List A7} {c m:Int} {cs col:List Int} {s:Nat} {cs1 col1:List Int} (hs:s<8) (h:O2 os c m cs col s ((BZ os s).length,cs1,col1)):MG os c m cs col cs1 col1 s:=by
 refine ⟨h.len,h.f,fun k hk hh=>h.OH k hk (.inl hh),h.only,h.OH s hs (.inr rfl),fun k hk h3 h4=> ?_,fun i hi=> ?_⟩
 ·by_cases hks:k=s
  ·subst hks
   exact ⟨.refl,fun y hy=>h.done y (by simp only;rw [List.take_length];exact hy)⟩
  ·exact h.clo k hk hks h3 h4
 ·have:=h.cnt i hi
  simp only [List.drop_length,List.count_nil] at this
  rw [this];simp
theorem WG {os:List A7} {b c' d:List T} {c m:Int} (hol:os.length=8) (hof: ∀o∈os,OF o) (hc:F64 c) (hm:F64 m): ∀(n:Nat) {cs col:List Int} {s:Nat} {K:J2},KD col c≤n→s<8→cs.length=8→col.length=8→(∀i,i<8→F64 (gI cs i))→(∀cs' col',MG os c m cs col cs' col' s→K [] [tI cs',tI col'])→cl2 ⟨Tryz.prog,w0⟩ 192 CA.sg [I s,I c,I m] [tI cs,tI col,tR tO os,b,c',d] K:=by
 intro n
 induction n with
 | zero=>
   intro cs col s K hn hs h1 h2 hf h
   refine CA.cl2 ?_
   unfold CA.txt
   simp only [AK,AS,AJ,AI,AM,AE,AH,AN,AO,AP,AL,AR,AT,AQ,BB,BE,BI,BH,BK,BJ,BF,AX,A4,AY,A1,AZ,A5]
   refine AW (by omega) (ldI (by omega) (BA (AG (fun he=>h _ _ (MG.refl h1 h2 hf he)) fun he=> ?_)))
   have:=NZ (a:=col) (b:=col.set s c) (c:=c) hs he (by rw [FT (by omega)];simp) fun k hk hh=>by rw [FT (by omega)];split <;> first | rfl | exact hh
   exact absurd this (by omega)
 | succ n ih=>
   intro cs col s K hn hs h1 h2 hf h
   refine CA.cl2 ?_
   unfold CA.txt
   simp only [AK,AS,AJ,AI,AM,AE,AH,AN,AO,AP,AL,AR,AT,AQ,BB,BE,BI,BH,BK,BJ,BF,AX,A4,AY,A1,AZ,A5]
   refine AW (by omega) (ldI (by omega) (BA (AG (fun he=>h _ _ (MG.refl h1 h2 hf he)) fun he=> ?_)))
   refine AW (by omega) (cP (by omega) (SB hol hof hs ?_))
   simp only [AK,AS,AJ,AI,AM,AE,AH,AN,AO,AP,AL,AR,AT,AQ,BB,BE,BI,BH,BK,BJ,BF,AX,A4,AY,A1,AZ,A5]
   have hkl:=P6 hof (k:=s) (by omega)
   refine CQ (α:=Nat×List Int×List Int) (fun q=>[I c,I m,iv (BZ os s).length,iv q.1]) (fun q=>[tI (BZ os s),tI q.2.1,tI q.2.2]) (fun q=>(BZ os s).length-q.1) (O2 os c m cs col s) (0,cs,col.set s c) rfl rfl (O2.start hs h1 h2 hf he) (fun R q hq hR=> ?_)
   obtain ⟨j,cs1,col1⟩:=q
   have hj:=hq.j
   have hl:=hq.len
   simp only at hj hl
   simp only [AK,AS,AJ,AI,AM,AE,AH,AN,AO,AP,AL,AR,AT,AQ,BB,BE,BI,BH,BK,BJ,BF,AX,A4,AY,A1,AZ,A5]
   refine AV (AG (fun hlt=> ?_) fun hge=> ?_)
   ·have hlt:j<(BZ os s).length:=by omega
    obtain ⟨x1,x2,x3,_⟩:=FA (FD hlt)
    have hmiss:KD col1 c≤n:=by
     have:=NZ (a:=col) (b:=col1) (c:=c) hs he (hq.OH s hs (.inr rfl)) fun k hk hh=>hq.OH k hk (.inl hh)
     omega
    have stp:=fun cs2 col2=>O2.step (cs2:=cs2) (col2:=col2) hs hq hlt
    obtain ⟨x,hx⟩: ∃x,(gI (BZ os s) j).toNat=x:=⟨_,rfl⟩
    rw [hx] at x2 x3 stp
    refine AW hlt (ldI hlt ?_)
    rw [x3]
    refine AW (by omega) (ldI (by omega) (DT (AW (by omega) (cP (by omega) ?_))))
    refine ih hmiss x2 (by simpa using hl.1) hl.2 (fun i hi=> ?_) fun cs2 col2 p=> ?_
    ·rw [FT (by omega)];split
     ·exact lA _
     ·exact hq.f i hi
    ·exact A6 (by omega) (hR (j+1,cs2,col2) (stp _ _ p) (by simp only;omega))
   ·have:j=(BZ os s).length:=by omega
    subst this
    exact h _ _ (O2.stop hs hq)
end Go.Proofs.YtnhicpkhkaihoaaGreat.P
namespace Go.Proofs.YtnhicpkhkaihoaaGreat.P
open Go Go.Proofs.YtnhicpkhkaihoaaGreat Go.Proofs.YtnhicpkhkaihoaaGreat.Eng
set_option linter.unusedVariables false
set_option maxHeartbeats 4000000
set_option linter.unusedVariables false
set_option linter.unusedSimpArgs false
attribute [local irreducible] prP gP gE gF AU ixW ldc ldg ldl stc stg scW mkW apW BG cl2 BX GP CZ
variable {w0:World}
def W (os:List A7):List Int→Nat→Int
 | [],_=>0
 | x::l,i=>E os x.toNat i+W os l i
theorem Aa (os:List A7) (a b:List Int) (i:Nat):W os (a++b) i=W os a i+W os b i:=by
 induction a with
 | nil=>simp [W]
 | cons x a ih=>simp only [List.cons_append,W,ih];omega
structure Vw (row:List Int) (off:Nat) (todo:List Int):Prop where
 bd:off+todo.length≤row.length
 vw:(row.drop off).take todo.length=todo
theorem Vw.get {row todo:List Int} {off j:Nat} (h:Vw row off todo) (hj:j<todo.length):gI row (off+j)=gI todo j:=by
 have e:=congrArg (fun l=>l[j]?) h.vw
 simp only [List.getElem?_take,hj,if_true,List.getElem?_drop] at e
 unfold gI
 rw [List.getD_eq_getElem?_getD,List.getD_eq_getElem?_getD,e]
theorem Vw.pop {row todo:List Int} {off:Nat} (h:Vw row off todo):Vw row off todo.dropLast:=by
 refine ⟨by have:=h.bd;rw [List.length_dropLast];omega, ?_⟩
 have e:=congrArg List.dropLast h.vw
 rw [List.dropLast_eq_take,List.take_take] at e
 rw [List.length_dropLast, ←e,List.length_take,List.length_drop]
 have:=h.bd
 congr 1;omega
theorem Vw.new (todo:List Int):Vw todo 0 todo:=⟨by omega,by simp⟩
theorem eD {todo:List Int} (h:todo.length>0):todo=todo.dropLast++[gI todo (todo.length-1)]:=by
 have hne:todo≠[]:=fun he=>by rw [he] at h;simp at h
 have:=(List.dropLast_concat_getLast hne).symm
 rw [List.getLast_eq_getElem hne,GD (by omega)] at this
 exact this
structure R9 (os:List A7) (c m:Int) (cs0 col0:List Int) (s:Nat) (todo cs col:List Int):Prop where
 len:cs.length=8∧col.length=8
 f: ∀i,i<8→F64 (gI cs i)
 OH: ∀k,k<8→gI col0 k=c→gI col k=c
 only: ∀k,k<8→gI col k≠c→gI col k=gI col0 k
 got:gI col s=c
 td: ∀x∈todo,0≤x∧x.toNat<8∧gI col x.toNat=c∧gI col0 x.toNat≠c∧Reach os s x.toNat
 nd:todo.Nodup
 clo: ∀k,k<8→gI col k=c→gI col0 k≠c→Reach os s k∧((k:Int)∈todo∨ ∀j∈BZ os k,gI col j.toNat=c)
 cnt: ∀i,i<8→gI cs i=w64 (gI cs0 i+m*(S os (isC col c) i-S os (isC col0 c) i-W os todo i))
 sz:todo.length+KD col c≤8
structure S7 (os:List A7) (c m:Int) (cs0 col0:List Int) (s:Nat) (k j:Nat) (todo cs col:List Int):Prop where
 len:cs.length=8∧col.length=8
 f: ∀i,i<8→F64 (gI cs i)
 OH: ∀k,k<8→gI col0 k=c→gI col k=c
 only: ∀k,k<8→gI col k≠c→gI col k=gI col0 k
 got:gI col s=c
 td: ∀x∈todo,0≤x∧x.toNat<8∧gI col x.toNat=c∧gI col0 x.toNat≠c∧Reach os s x.toNat
 nd:todo.Nodup
 me:k<8∧Reach os s k
 clo: ∀x,x<8→x≠k→gI col x=c→gI col0 x≠c→Reach os s x∧((x:Int)∈todo∨ ∀j∈BZ os x,gI col j.toNat=c)
 done: ∀x∈(BZ os k).take j,gI col x.toNat=c
 cnt: ∀i,i<8→gI cs i=w64 (gI cs0 i+m*(S os (isC col c) i-S os (isC col0 c) i-W os todo i-(((BZ os k).drop j).count (i:Int):Nat)))
 sz:todo.length+KD col c≤8
section
variable {os:List A7} {c m:Int} {cs0 col0 cs col todo:List Int} {s k j:Nat}
theorem R9.start (hs:s<8) (h1:cs0.length=8) (h2:col0.length=8) (hf: ∀i,i<8→F64 (gI cs0 i)) (h0:gI col0 s≠c):R9 os c m cs0 col0 s [(s:Int)] cs0 (col0.set s c):=by
 have hkeep: ∀k,k<8→gI col0 k=c→gI (col0.set s c) k=c:=fun k hk h=>by rw [FT (by omega)];split <;> first | rfl | exact h
 have hgot:gI (col0.set s c) s=c:=by rw [FT (by omega)];simp
 refine ⟨⟨h1,by simpa using h2⟩,hf,hkeep,fun k hk h=> ?_,hgot,fun x hx=> ?_,by simp,fun k hk h3 h4=> ?_,fun i hi=> ?_, ?_⟩
 ·rw [FT (by omega)] at h ⊢;split
  ·rename_i hh;rw [if_pos hh] at h;exact absurd rfl h
  ·rfl
 ·have hx:x=(s:Int):=by simpa using hx
  subst hx
  rw [Int.toNat_natCast]
  exact ⟨by omega,hs,hgot,h0, .refl⟩
 ·rw [FT (by omega)] at h3
  by_cases hh:k=s
  ·subst hh;exact ⟨.refl, .inl (by simp)⟩
  ·rw [if_neg hh] at h3;exact absurd h3 h4
 ·have e:=tV (os:=os) (P:=isC col0 c) (Q:=isC (col0.set s c) c) (i:=i) hs (by simp [isC,h0]) (by rw [TY (by omega)];simp) fun k hk hne=>by rw [TY (by omega)];simp [hne]
  simp only [W,Int.toNat_natCast]
  rw [e]
  have e2:S os (isC col0 c) i+E os s i-S os (isC col0 c) i-(E os s i+0)=0:=by omega
  rw [e2,Int.mul_zero,Int.add_zero,OG (hf i hi)]
 ·have:=NZ hs h0 hgot hkeep
  have:=WU col0 c
  simp only [List.length_singleton];omega
theorem R9.stop (h:R9 os c m cs0 col0 s [] cs col):MG os c m cs0 col0 cs col s:=
 ⟨h.len,h.f,h.OH,h.only,h.got,fun k hk h3 h4=>⟨(h.clo k hk h3 h4).1,(h.clo k hk h3 h4).2.resolve_left (by simp)⟩,fun i hi=>by have:=h.cnt i hi;simp only [W,Int.sub_zero] at this;exact this⟩
theorem R9.pop (h:R9 os c m cs0 col0 s todo cs col) (hl:todo.length>0) (hk:(gI todo (todo.length-1)).toNat=k):gI todo (todo.length-1)=(k:Int)∧k<8∧S7 os c m cs0 col0 s k 0 todo.dropLast cs col:=by
 have e:=eD hl
 have hm:gI todo (todo.length-1)∈todo:=FD (by omega)
 obtain ⟨t1,t2,t3,t4,t5⟩:=h.td _ hm
 rw [hk] at t2 t3 t4 t5
 have e2:gI todo (todo.length-1)=(k:Int):=by omega
 rw [e2] at e
 have hnd:=h.nd
 rw [e,List.nodup_append] at hnd
 refine ⟨e2,t2,h.len,h.f,h.OH,h.only,h.got,fun x hx=>h.td x (List.dropLast_subset _ hx),hnd.1,⟨t2,t5⟩,fun x hx hne h3 h4=> ?_,by simp,fun i hi=> ?_, ?_⟩
 ·obtain ⟨g1,g2⟩:=h.clo x hx h3 h4
  refine ⟨g1,g2.imp_left fun g=> ?_⟩
  rw [e,List.mem_append,List.mem_singleton] at g
  exact g.resolve_right (by omega)
 ·rw [h.cnt i hi]
  have:W os todo i=W os todo.dropLast i+E os k i:=by
   conv=>lhs;rw [e]
   rw [Aa];simp [W]
  rw [this,List.drop_zero]
  congr 3
  have e3:(((BZ os k).count (i:Int):Nat):Int)=E os k i:=rfl
  rw [e3];omega
 ·have:=h.sz
  rw [List.length_dropLast];omega
theorem S7.stop (h:S7 os c m cs0 col0 s k (BZ os k).length todo cs col):R9 os c m cs0 col0 s todo cs col:=by
 refine ⟨h.len,h.f,h.OH,h.only,h.got,h.td,h.nd,fun x hx h3 h4=> ?_,fun i hi=> ?_,h.sz⟩
 ·by_cases hk:x=k
  ·subst hk
   exact ⟨h.me.2, .inr fun y hy=>h.done y (by rw [List.take_length];exact hy)⟩
  ·exact h.clo x hx hk h3 h4
 ·have:=h.cnt i hi
  simp only [List.drop_length,List.count_nil] at this
  rw [this];simp
theorem iZ {l:List Int} {j i:Nat} {x:Nat} (hj:j<l.length) (hx:gI l j=(x:Int)):((l.drop j).count (i:Int):Int)=(if i=x then 1 else 0)+((l.drop (j+1)).count (i:Int):Int):=by
 rw [drop_cons hj,List.count_cons,hx]
 by_cases hh:i=x
 ·have:((x:Int)==(i:Int))=true:=by simp;omega
  rw [if_pos hh,this];simp;omega
 ·have:((x:Int)==(i:Int))=false:=by simp;omega
  rw [if_neg hh,this];simp
theorem S7.old (h:S7 os c m cs0 col0 s k j todo cs col) (hj:j<(BZ os k).length) {x:Nat} (hx:gI (BZ os k) j=(x:Int)) (hc:gI col x=c):S7 os c m cs0 col0 s k (j+1) todo (cs.set x (w64 (gI cs x+m))) col:=by
 have x8:x<8:=by have:=(FA (FD hj)).2.1;rw [hx] at this;simpa using this
 have hl:=h.len
 refine ⟨⟨by simpa using hl.1,hl.2⟩,fun i hi=> ?_,h.OH,h.only,h.got,h.td,h.nd,h.me,h.clo,fun y hy=> ?_,fun i hi=> ?_,h.sz⟩
 ·rw [FT (by omega)];split
  ·exact lA _
  ·exact h.f i hi
 ·rw [List.take_succ_eq_append_getElem hj,List.mem_append,List.mem_singleton] at hy
  rcases hy with hy | rfl
  ·exact h.done y hy
  ·rw [GD hj,hx,Int.toNat_natCast];exact hc
 ·rw [FT (by omega)]
  have e2:=h.cnt i hi
  have e3:=iZ (i:=i) hj hx
  by_cases hh:i=x
  ·rw [if_pos hh, ←hh,e2,PS]
   rw [if_pos hh] at e3
   congr 1
   rw [e3]
   generalize S os (isC col c) i=a
   generalize S os (isC col0 c) i=b
   generalize W os todo i=d
   generalize ((List.drop (j+1) (BZ os k)).count (i:Int):Int)=e
   simp only [Int.mul_sub,Int.mul_add,Int.mul_one];omega
  ·rw [if_neg hh,e2]
   rw [if_neg hh] at e3
   rw [e3,Int.zero_add]
theorem S7.new (h:S7 os c m cs0 col0 s k j todo cs col) (hj:j<(BZ os k).length) {x:Nat} (hx:gI (BZ os k) j=(x:Int)) (hc:gI col x≠c):S7 os c m cs0 col0 s k (j+1) (todo++[(x:Int)]) (cs.set x (w64 (gI cs x+m))) (col.set x c):=by
 have x8:x<8:=by have:=(FA (FD hj)).2.1;rw [hx] at this;simpa using this
 have hl:=h.len
 have hgot:gI (col.set x c) x=c:=by rw [FT (by omega)];simp
 have kp: ∀y,gI col y=c→gI (col.set x c) y=c:=fun y hy=>by rw [FT (by omega)];split <;> first | rfl | exact hy
 have hrx:Reach os s x:=by have:=Reach.step h.me.2 (FD hj);rw [hx] at this;simpa using this
 have h0x:gI col0 x≠c:=fun he=>hc (h.OH x x8 he)
 refine ⟨⟨by simpa using hl.1,by simpa using hl.2⟩,fun i hi=> ?_,fun y hy he=>kp y (h.OH y hy he),fun y hy he=> ?_,kp s h.got,fun y hy=> ?_, ?_,h.me,fun y hy hne h3 h4=> ?_,fun y hy=> ?_,fun i hi=> ?_, ?_⟩
 ·rw [FT (by omega)];split
  ·exact lA _
  ·exact h.f i hi
 ·rw [FT (by omega)] at he ⊢
  split
  ·rename_i hh;rw [if_pos hh] at he;exact absurd rfl he
  ·rename_i hh;rw [if_neg hh] at he;exact h.only y hy he
 ·rw [List.mem_append,List.mem_singleton] at hy
  rcases hy with hy | rfl
  ·obtain ⟨a1,a2,a3,a4,a5⟩:=h.td y hy
   exact ⟨a1,a2,kp _ a3,a4,a5⟩
  ·rw [Int.toNat_natCast]
   exact ⟨by omega,x8,hgot,h0x,hrx⟩
 ·rw [List.nodup_append]
  refine ⟨h.nd,by simp,fun a ha b hb=> ?_⟩
  have hb:b=(x:Int):=by simpa using hb
  subst hb
  intro he
  subst he
  exact hc (by have:=(h.td _ ha).2.2.1;rwa [Int.toNat_natCast] at this)
 ·by_cases hyx:y=x
  ·subst hyx;exact ⟨hrx, .inl (by simp)⟩
  ·rw [FT (by omega),if_neg hyx] at h3
   obtain ⟨g1,g2⟩:=h.clo y hy hne h3 h4
   exact ⟨g1,g2.elim (fun g=> .inl (List.mem_append_left _ g)) fun g=> .inr fun z hz=>kp _ (g z hz)⟩
 ·rw [List.take_succ_eq_append_getElem hj,List.mem_append,List.mem_singleton] at hy
  rcases hy with hy | rfl
  ·exact kp _ (h.done y hy)
  ·rw [GD hj,hx,Int.toNat_natCast];exact hgot
 ·rw [FT (by omega)]
  have e2:=h.cnt i hi
  have e3:=iZ (i:=i) hj hx
  have e:=tV (os:=os) (P:=isC col c) (Q:=isC (col.set x c) c) (i:=i) x8 (by simp [isC,hc]) (by rw [TY (by omega)];simp) fun k hk hne=>by rw [TY (by omega)];simp [hne]
  have ew:W os (todo++[(x:Int)]) i=W os todo i+E os x i:=by rw [Aa];simp [W]
  rw [e,ew]
  by_cases hh:i=x
  ·rw [if_pos hh, ←hh,e2,PS]
   rw [if_pos hh] at e3
   congr 1
   rw [e3,hh]
   generalize S os (isC col c) x=a
   generalize S os (isC col0 c) x=b
   generalize W os todo x=d
   generalize E os x x=g
   generalize ((List.drop (j+1) (BZ os k)).count (x:Int):Int)=e
   have:a+g-b-(d+g)-e=a-b-d-(1+e)+1:=by omega
   rw [this,Int.mul_add,Int.mul_one];omega
  ·rw [if_neg hh,e2]
   rw [if_neg hh] at e3
   rw [e3]
   congr 3
   omega
 ·have:=NZ (c:=c) x8 hc hgot fun y _ hy=>kp y hy
  have:=h.sz
  simp only [List.length_append,List.length_singleton];omega
end
end Go.Proofs.YtnhicpkhkaihoaaGreat.P
namespace Go.Proofs.YtnhicpkhkaihoaaGreat.P
open Go Go.Proofs.YtnhicpkhkaihoaaGreat Go.Proofs.YtnhicpkhkaihoaaGreat.Eng
set_option linter.unusedVariables false
set_option maxHeartbeats 4000000
set_option linter.unusedVariables false
set_option linter.unusedSimpArgs false
attribute [local irreducible] prP gP gE gF AU ixW ldc ldg ldl stc stg scW mkW apW BG cl2 BX GP CZ
variable {w0:World}
theorem QO {a b:List Int} {K:J2} (h1:a.length≤100) (h2:b.length≤100) (h:K [] [tI a,tI b]):cl2 ⟨Tryz.prog,w0⟩ 190 D8.sg [] [tI a,tI b] K:=by
 refine D8.cl2 ?_
 unfold D8.txt
 exact J6 (by omega) (J6 (by omega) h)
theorem UF {a b:List Int} {K:J2} (h1:a.length≤100) (h2:b.length≤100) (h:K [] [tI a,tI b]):cl2 ⟨Tryz.prog,w0⟩ 185 G8.sg [] [tI a,tI b] K:=by
 refine G8.cl2 ?_
 unfold G8.txt
 rw [List.nil_append,List.nil_append]
 simp only [AK,AS,AJ,AI,AM,AE,AH,AN,AO,AP,AL,AR,AT,AQ,BB,BE,BI,BH,BK,BJ,BF,AX,A4,AY,A1,AZ,A5]
 exact DP (PQ _) (by first | omega | (simp only [cnt,List.length_nil];omega)) (DP (PQ _) (by first | omega | (simp only [cnt,List.length_nil];omega)) h)
theorem T9 {os:List A7} {b c d:List T} {cs col:List Int} {id:Int} {K:J2} (hol:os.length=8) (h1:cs.length=8) (h2:col.length=8) (hno:AD os id<0→K [.bool false] []) (hyes:0≤AD os id→K [.bool true] []):cl2 ⟨Tryz.prog,w0⟩ 191 G4.sg [I (AD os id)] [tR tO os,b,c,d,tI cs,tI col] K:=by
 refine G4.cl2 ?_
 unfold G4.txt
 simp only [AK,AS,AJ,AI,AM,AE,AH,AN,AO,AP,AL,AR,AT,AQ,BB,BE,BI,BH,BK,BJ,BF,AX,A4,AY,A1,AZ,A5]
 refine BA ?_
 have e1:(os.length:Int)=8:=by omega
 have e2:(cs.length:Int)=8:=by omega
 have e3:(col.length:Int)=8:=by omega
 by_cases hs:AD os id<0
 ·have:=hno hs
  repeat' (first | refine GA ?_ | refine BM ?_ | refine IF (by first | with_reducible assumption | omega) ?_ | refine LP (by first | with_reducible assumption | omega) ?_ | refine CI (by first | with_reducible assumption | omega) rfl ?_ | refine CD (by first | with_reducible assumption | omega) rfl ?_ | refine BA ?_)
  all_goals first | exact this | omega
 ·have:=hyes (by omega)
  have hk:=BV (l:=os) (id:=id) (by omega)
  obtain ⟨k,hkk⟩: ∃k,(AD os id).toNat=k:=⟨_,rfl⟩
  have hkI:AD os id=(k:Int):=by omega
  rw [hkk] at hk
  rw [hkI]
  have hkl:k<os.length:=by omega
  repeat' (first | refine NA (v:= .bool true) hkl (by simp [tO,hk.2.2.2.2.1]) ?_ | refine GA ?_ | refine BM ?_ | refine IF (by first | with_reducible assumption | omega) ?_ | refine CI (by first | with_reducible assumption | omega) rfl ?_ | refine BA ?_ | refine AW (by omega) ?_)
  all_goals first | exact this | omega
theorem XT {os:List A7} {b c d:List T} {cs col:List Int} {id:Int} {K:J2} (hol:os.length=8) (h1:cs.length=8) (h2:col.length=8) (hno:AD os id<0→K [.bool false] []) (hyes:0≤AD os id→K [.bool true] []):cl2 ⟨Tryz.prog,w0⟩ 186 JD.sg [I (AD os id)] [tR tO os,b,c,d,tI cs,tI col] K:=by
 refine JD.cl2 ?_
 unfold JD.txt
 simp only [AK,AS,AJ,AI,AM,AE,AH,AN,AO,AP,AL,AR,AT,AQ,BB,BE,BI,BH,BK,BJ,BF,AX,A4,AY,A1,AZ,A5]
 refine BA ?_
 have e1:(os.length:Int)=8:=by omega
 have e2:(cs.length:Int)=8:=by omega
 have e3:(col.length:Int)=8:=by omega
 by_cases hs:AD os id<0
 ·have:=hno hs
  repeat' (first | refine D6 ?_ | refine BM ?_ | refine IF (by first | with_reducible assumption | omega) ?_ | refine LP (by first | with_reducible assumption | omega) ?_ | refine CI (by first | with_reducible assumption | omega) rfl ?_ | refine CD (by first | with_reducible assumption | omega) rfl ?_ | refine BA ?_)
  all_goals first | exact this | omega
 ·have:=hyes (by omega)
  have hk:=BV (l:=os) (id:=id) (by omega)
  obtain ⟨k,hkk⟩: ∃k,(AD os id).toNat=k:=⟨_,rfl⟩
  have hkI:AD os id=(k:Int):=by omega
  rw [hkk] at hk
  rw [hkI]
  have hkl:k<os.length:=by omega
  repeat' (first | refine NA (v:= .bool true) hkl (by simp [tO,hk.2.2.2.2.1]) ?_ | refine D6 ?_ | refine BM ?_ | refine IF (by first | with_reducible assumption | omega) ?_ | refine CI (by first | with_reducible assumption | omega) rfl ?_ | refine BA ?_ | refine AW (by omega) ?_)
  all_goals first | exact this | omega
theorem mD {n i:Nat} (hi:i≤n) {K:Value→Value→Prop} (h:K (iv 0) (iv i)):scW n none (some (.int .i64 i)) K:=bQ hi h
theorem Y8 {os:List A7} {b c' d:List T} {cs col:List Int} {s:Nat} {K:J2} (hol:os.length=8) (hof: ∀o∈os,OF o) (hs:s<8) (h1:cs.length=8) (h2:col.length=8) (hf: ∀i,i<8→F64 (gI cs i)) (h0:gI col s≠0) (h: ∀cs' col',MG os 0 1 cs col cs' col' s→K [] [tI cs',tI col']):cl2 ⟨Tryz.prog,w0⟩ 188 H0.sg [I s] [tR tO os,b,c',d,tI cs,tI col] K:=by
 refine H0.cl2 ?_
 unfold H0.txt
 simp only [AK,AS,AJ,AI,AM,AE,AH,AN,AO,AP,AL,AR,AT,AQ,BB,BE,BI,BH,BK,BJ,BF,AX,A4,AY,A1,AZ,A5]
 refine AW (by omega) (cP (v:=0) (by omega) ?_)
 refine CQ (α:=List Int×Nat×List Int×List Int×List Int) (fun q=>[iv q.2.2.1.length,iv q.2.1]) (fun q=>[tI q.1,tI q.2.2.2.1,tI q.2.2.2.2]) (fun q=>q.2.2.1.length+2*KD q.2.2.2.2 0) (fun q=>Vw q.1 q.2.1 q.2.2.1∧R9 os 0 1 cs col s q.2.2.1 q.2.2.2.1 q.2.2.2.2) ([(s:Int)],0,[(s:Int)],cs,col.set s 0) rfl rfl ⟨Vw.new _,R9.start hs h1 h2 hf h0⟩ (fun R q hq hR=> ?_)
 obtain ⟨row,off,todo,cs1,col1⟩:=q
 obtain ⟨vw,wk⟩:=hq
 simp only at vw wk
 have hsz:=wk.sz
 have hbd:=vw.bd
 simp only [AK,AS,AJ,AI,AM,AE,AH,AN,AO,AP,AL,AR,AT,AQ,BB,BE,BI,BH,BK,BJ,BF,AX,A4,AY,A1,AZ,A5]
 simp only [A8]
 refine FJ (AG (fun hlt=> ?_) fun hge=> ?_)
 ·have hlt:todo.length>0:=by omega
  obtain ⟨k,hk⟩: ∃k,(gI todo (todo.length-1)).toNat=k:=⟨_,rfl⟩
  obtain ⟨e1,k8,wj⟩:=wk.pop hlt hk
  have ev:((todo.length:Int)-1)=((todo.length-1:Nat):Int):=by omega
  refine DO ⟨by omega,by omega⟩ ?_
  rw [ev]
  refine AW (by omega) ?_
  have eg:=vw.get (j:=todo.length-1) (by omega)
  have el:ldc (tI row) [] (off+AA (iv (todo.length-1))*1)=ldc (tI row) [] (AA (iv (off+(todo.length-1)))*1):=by rw [A8,A8];congr 1;omega
  rw [el]
  refine ldI (by omega) ?_
  rw [eg,e1]
  refine DO ⟨by omega,by omega⟩ ?_
  rw [ev]
  refine mD (by omega) (PY hol hof k8 ?_)
  have hkl:=P6 hof (k:=k) (by omega)
  refine CQ (α:=Nat×List Int×Nat×List Int×List Int×List Int) (fun q=>[iv q.2.2.2.1.length,iv q.2.2.1,iv q.1]) (fun q=>[tI q.2.1,tI (BZ os k),tI q.2.2.2.2.1,tI q.2.2.2.2.2]) (fun q=>(BZ os k).length-q.1) (fun q=>q.1≤(BZ os k).length∧Vw q.2.1 q.2.2.1 q.2.2.2.1∧S7 os 0 1 cs col s k q.1 q.2.2.2.1 q.2.2.2.2.1 q.2.2.2.2.2∧q.2.2.2.1.length+2*KD q.2.2.2.2.2 0<todo.length+2*KD col1 0) (0,row,off,todo.dropLast,cs1,col1) ?_ rfl ⟨Nat.zero_le _,vw.pop,wj,by simp only [List.length_dropLast];omega⟩ (fun R2 q hq hR2=> ?_)
  ·simp only [List.length_dropLast,A8,Nat.zero_mul,Nat.add_zero];rfl
  obtain ⟨j,row2,off2,todo2,cs2,col2⟩:=q
  obtain ⟨hj,vw2,wj2,hms⟩:=hq
  simp only at hj vw2 wj2 hms
  have hsz2:=wj2.sz
  have hbd2:=vw2.bd
  have hl2:=wj2.len
  simp only [AK,AS,AJ,AI,AM,AE,AH,AN,AO,AP,AL,AR,AT,AQ,BB,BE,BI,BH,BK,BJ,BF,AX,A4,AY,A1,AZ,A5]
  simp only [A8]
  refine AV (AG (fun hlj=> ?_) fun hgj=> ?_)
  ·have hlj:j<(BZ os k).length:=by omega
   obtain ⟨x,hx⟩: ∃x,(gI (BZ os k) j).toNat=x:=⟨_,rfl⟩
   obtain ⟨x1,x2,x3,_⟩:=FA (FD hlj)
   rw [hx] at x2 x3
   have xc:x<cs2.length:=by omega
   have xl:x<col2.length:=by omega
   refine BS (AW hlj (ldI hlj (AW hlj (ldI hlj ?_))))
   rw [x3]
   refine AW xc (ldI xc (DT (AW xc (cP xc (AW hlj (ldI hlj ?_))))))
   rw [x3]
   refine AW xl (ldI xl (B9 (AG (fun hne=> ?_) fun heq=> ?_)))
   ·refine AW hlj (ldI hlj ?_)
    rw [x3]
    refine AW xl (cP (v:=0) xl (AW hlj (ldI hlj ?_)))
    rw [x3]
    have wn:=wj2.new hlj x3 hne
    have:=NZ (a:=col2) (b:=col2.set x 0) (c:=0) x2 hne (by rw [FT xl];simp) fun y _ hy=>by rw [FT xl];split <;> first | rfl | exact hy
    refine DP rfl (by omega) (A6 (by omega) ?_)
    have:=hR2 (j+1,todo2++[(x:Int)],0,todo2++[(x:Int)],_,_) ⟨by simp only;omega,Vw.new _,wn,by simp only [List.length_append,List.length_singleton];omega⟩ (by simp only;omega)
    simp only [Nat.mul_one,SJ,vw2.vw]
    have ea:tI todo2++[T.c (I (x:Int))]=tI (todo2++[(x:Int)]):=E9 _ _
    rw [ea]
    simp only [AK,AS,AJ,AI,AM,AE,AH,AN,AO,AP,AL,AR,AT,AQ,BB,BE,BI,BH,BK,BJ,BF,AX,A4,AY,A1,AZ,A5]
    simp only [A8]
    exact this
   ·have heq:gI col2 x=0:=Decidable.not_not.1 heq
    have wo:=wj2.old hlj x3 heq
    refine A6 (by omega) ?_
    have:=hR2 (j+1,row2,off2,todo2,_,_) ⟨by simp only;omega,vw2,wo,hms⟩ (by simp only;omega)
    simp only [AK,AS,AJ,AI,AM,AE,AH,AN,AO,AP,AL,AR,AT,AQ,BB,BE,BI,BH,BK,BJ,BF,AX,A4,AY,A1,AZ,A5]
    simp only [A8]
    exact this
  ·have:j=(BZ os k).length:=by omega
   subst this
   have:=hR (row2,off2,todo2,cs2,col2) ⟨vw2,wj2.stop⟩ hms
   exact this
 ·have:todo=[]:=List.length_eq_zero_iff.1 (by omega)
  subst this
  exact h _ _ wk.stop
theorem YB {os:List A7} {b c' d:List T} {cs col:List Int} {id:Int} {K:J2} (hol:os.length=8) (hof: ∀o∈os,OF o) (h1:cs.length=8) (h2:col.length=8) (hf: ∀i,i<8→F64 (gI cs i)) (hno:AD os id<0→K [] [tI cs,tI col]) (h: ∀s:Nat,AD os id=s→s<8→ ∀cs' col',MG os 1 (-1) cs col cs' col' s→K [] [tI cs',tI col']):cl2 ⟨Tryz.prog,w0⟩ 161 GQ.sg [I (AD os id)] [tR tO os,b,c',d,tI cs,tI col] K:=by
 refine GQ.cl2 ?_
 unfold GQ.txt
 refine UF (by omega) (by omega) (XT hol h1 h2 (fun hs=> ?_) fun hs=> ?_)
 ·replace hno:=hno hs
  repeat' (first | refine BM ?_ | refine NH ?_ | refine RF rfl ?_ | refine BP ?_ | refine BU ?_ | simp only [AK,AS,AJ,AI,AM,AE,AH,AN,AO,AP,AL,AR,AT,AQ,BB,BE,BI,BH,BK,BJ,BF,AX,A4,AY,A1,AZ,A5])
  all_goals exact hno
 have hk:=BV hs
 obtain ⟨s,hss⟩: ∃s,(AD os id).toNat=s:=⟨_,rfl⟩
 have hsI:AD os id=(s:Int):=by omega
 have hs:s<8:=hss ▸ hk.2.2.2.1
 replace h:=h s hsI hs
 clear hno
 rw [hsI]
 refine BU ?_
 have hsl:s<col.length:=by omega
 simp only [AK,AS,AJ,AI,AM,AE,AH,AN,AO,AP,AL,AR,AT,AQ,BB,BE,BI,BH,BK,BJ,BF,AX,A4,AY,A1,AZ,A5]
 refine BM (BM (BM (NV (AW hsl ?_))))
 refine NV (ldI hsl (NV (BA (VA rfl ?_))))
 refine AG (fun he=>h _ _ (MG.refl h1 h2 hf he)) fun h0=> ?_
 refine AW (by omega) (cP (v:=1) (by omega) ?_)
 refine CQ (α:=List Int×Nat×List Int×List Int×List Int) (fun q=>[iv q.2.2.1.length,iv q.2.1]) (fun q=>[tI q.1,tI q.2.2.2.1,tI q.2.2.2.2]) (fun q=>q.2.2.1.length+2*KD q.2.2.2.2 1) (fun q=>Vw q.1 q.2.1 q.2.2.1∧R9 os 1 (-1) cs col s q.2.2.1 q.2.2.2.1 q.2.2.2.2) ([(s:Int)],0,[(s:Int)],cs,col.set s 1) rfl rfl ⟨Vw.new _,R9.start hs h1 h2 hf h0⟩ (fun R q hq hR=> ?_)
 obtain ⟨row,off,todo,cs1,col1⟩:=q
 obtain ⟨vw,wk⟩:=hq
 simp only at vw wk
 have hsz:=wk.sz
 have hbd:=vw.bd
 simp only [AK,AS,AJ,AI,AM,AE,AH,AN,AO,AP,AL,AR,AT,AQ,BB,BE,BI,BH,BK,BJ,BF,AX,A4,AY,A1,AZ,A5]
 simp only [A8]
 refine FJ (AG (fun hlt=> ?_) fun hge=> ?_)
 ·have hlt:todo.length>0:=by omega
  obtain ⟨k,hk⟩: ∃k,(gI todo (todo.length-1)).toNat=k:=⟨_,rfl⟩
  obtain ⟨e1,k8,wj⟩:=wk.pop hlt hk
  have ev:((todo.length:Int)-1)=((todo.length-1:Nat):Int):=by omega
  refine DO ⟨by omega,by omega⟩ ?_
  rw [ev]
  refine AW (by omega) ?_
  have eg:=vw.get (j:=todo.length-1) (by omega)
  have el:ldc (tI row) [] (off+AA (iv (todo.length-1))*1)=ldc (tI row) [] (AA (iv (off+(todo.length-1)))*1):=by rw [A8,A8];congr 1;omega
  rw [el]
  refine ldI (by omega) ?_
  rw [eg,e1]
  refine DO ⟨by omega,by omega⟩ ?_
  rw [ev]
  refine mD (by omega) (PY hol hof k8 ?_)
  have hkl:=P6 hof (k:=k) (by omega)
  refine CQ (α:=Nat×List Int×Nat×List Int×List Int×List Int) (fun q=>[iv q.2.2.2.1.length,iv q.2.2.1,iv q.1]) (fun q=>[tI q.2.1,tI (BZ os k),tI q.2.2.2.2.1,tI q.2.2.2.2.2]) (fun q=>(BZ os k).length-q.1) (fun q=>q.1≤(BZ os k).length∧Vw q.2.1 q.2.2.1 q.2.2.2.1∧S7 os 1 (-1) cs col s k q.1 q.2.2.2.1 q.2.2.2.2.1 q.2.2.2.2.2∧q.2.2.2.1.length+2*KD q.2.2.2.2.2 1<todo.length+2*KD col1 1) (0,row,off,todo.dropLast,cs1,col1) ?_ rfl ⟨Nat.zero_le _,vw.pop,wj,by simp only [List.length_dropLast];omega⟩ (fun R2 q hq hR2=> ?_)
  ·simp only [List.length_dropLast,A8,Nat.zero_mul,Nat.add_zero];rfl
  obtain ⟨j,row2,off2,todo2,cs2,col2⟩:=q
  obtain ⟨hj,vw2,wj2,hms⟩:=hq
  simp only at hj vw2 wj2 hms
  have hsz2:=wj2.sz
  have hbd2:=vw2.bd
  have hl2:=wj2.len
  simp only [AK,AS,AJ,AI,AM,AE,AH,AN,AO,AP,AL,AR,AT,AQ,BB,BE,BI,BH,BK,BJ,BF,AX,A4,AY,A1,AZ,A5]
  simp only [A8]
  refine AV (AG (fun hlj=> ?_) fun hgj=> ?_)
  ·have hlj:j<(BZ os k).length:=by omega
   obtain ⟨x,hx⟩: ∃x,(gI (BZ os k) j).toNat=x:=⟨_,rfl⟩
   obtain ⟨x1,x2,x3,_⟩:=FA (FD hlj)
   rw [hx] at x2 x3
   have xc:x<cs2.length:=by omega
   have xl:x<col2.length:=by omega
   refine BS (AW hlj (ldI hlj (AW hlj (ldI hlj ?_))))
   rw [x3]
   refine AW xc (ldI xc (bH (AW xc (cP xc (AW hlj (ldI hlj ?_))))))
   rw [x3]
   refine AW xl (ldI xl (B9 (AG (fun hne=> ?_) fun heq=> ?_)))
   ·refine AW hlj (ldI hlj ?_)
    rw [x3]
    refine AW xl (cP (v:=1) xl (AW hlj (ldI hlj ?_)))
    rw [x3]
    have wn:=wj2.new hlj x3 hne
    have:=NZ (a:=col2) (b:=col2.set x 1) (c:=1) x2 hne (by rw [FT xl];simp) fun y _ hy=>by rw [FT xl];split <;> first | rfl | exact hy
    refine DP rfl (by omega) (A6 (by omega) ?_)
    have:=hR2 (j+1,todo2++[(x:Int)],0,todo2++[(x:Int)],_,_) ⟨by simp only;omega,Vw.new _,wn,by simp only [List.length_append,List.length_singleton];omega⟩ (by simp only;omega)
    simp only [Nat.mul_one,SJ,vw2.vw]
    have ea:tI todo2++[T.c (I (x:Int))]=tI (todo2++[(x:Int)]):=E9 _ _
    rw [ea]
    simp only [AK,AS,AJ,AI,AM,AE,AH,AN,AO,AP,AL,AR,AT,AQ,BB,BE,BI,BH,BK,BJ,BF,AX,A4,AY,A1,AZ,A5]
    simp only [A8]
    exact this
   ·have heq:gI col2 x=1:=Decidable.not_not.1 heq
    have wo:=wj2.old hlj x3 heq
    refine A6 (by omega) ?_
    have:=hR2 (j+1,row2,off2,todo2,_,_) ⟨by simp only;omega,vw2,wo,hms⟩ (by simp only;omega)
    simp only [AK,AS,AJ,AI,AM,AE,AH,AN,AO,AP,AL,AR,AT,AQ,BB,BE,BI,BH,BK,BJ,BF,AX,A4,AY,A1,AZ,A5]
    simp only [A8]
    exact this
  ·have:j=(BZ os k).length:=by omega
   subst this
   have:=hR (row2,off2,todo2,cs2,col2) ⟨vw2,wj2.stop⟩ hms
   exact this
 ·have:todo=[]:=List.length_eq_zero_iff.1 (by omega)
  subst this
  exact h _ _ wk.stop
end Go.Proofs.YtnhicpkhkaihoaaGreat.P
