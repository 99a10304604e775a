/- A part of the proof. -/
import Derived.Test.YtklmcfpgdfibnaaPtHpK
namespace Go.Proofs.Ytklmcfpgdfibnaa.P
open Go Go.Proofs.Ytklmcfpgdfibnaa Go.Proofs.Ytklmcfpgdfibnaa.Eng
set_option linter.unusedVariables false
theorem mS (n:Int):w64 n=(n+9223372036854775808) % 18446744073709551616-9223372036854775808:=by
 simp only [w64,IntKind.wrap,IntKind.bits,IntKind.signed]
 simp
 split <;> omega
theorem ME (a b:Int):w64 (w64 a+b)=w64 (a+b):=by simp only [mS];omega
theorem cE (a:Int):F64 (w64 a):=by rw [mS];exact ⟨by omega,by omega⟩
def GN:Nat→(Nat→Int)→Int
 | 0,_=>0
 | n+1,f=>GN n f+f n
theorem KE {n:Nat} {f g:Nat→Int} (h: ∀k,k<n→f k=g k):GN n f=GN n g:=by
 induction n with
 | zero=>rfl
 | succ n ih=>simp only [GN];rw [ih fun k hk=>h k (by omega),h n (by omega)]
theorem SZ {n k0:Nat} {f g:Nat→Int} (hk:k0<n) (h: ∀k,k<n→k≠k0→f k=g k):GN n g=GN n f+(g k0-f k0):=by
 induction n with
 | zero=>omega
 | succ n ih=>
   simp only [GN]
   by_cases he:k0=n
   ·subst he
    rw [KE (g:=g) fun k hk=>h k (by omega) (by omega)];omega
   ·rw [ih (by omega) fun k hk hne=>h k (by omega) hne,h n (by omega) (by omega)];omega
theorem iX {n:Nat} {f g:Nat→Int}:GN n (fun k=>f k+g k)=GN n f+GN n g:=by
 induction n with
 | zero=>rfl
 | succ n ih=>simp only [GN,ih];omega
theorem JZ {n:Nat} {f:Nat→Int} (h: ∀k,k<n→f k=0):GN n f=0:=by
 induction n with
 | zero=>rfl
 | succ n ih=>simp only [GN];rw [ih fun k hk=>h k (by omega),h n (by omega)];rfl
theorem LY {n:Nat} {f g:Nat→Int} (h: ∀k,k<n→f k≤g k):GN n f≤GN n g:=by
 induction n with
 | zero=>exact Int.le_refl _
 | succ n ih=>simp only [GN];have:=ih fun k hk=>h k (by omega);have:=h n (by omega);omega
theorem D7 {l:List Int} {i k:Nat} {v:Int} (hk:k<l.length):gI (l.set k v) i=if i=k then v else gI l i:=by
 unfold gI
 by_cases h:i=k
 ·subst h
  rw [if_pos rfl,List.getD_eq_getElem?_getD,List.getElem?_set_self hk];rfl
 ·rw [if_neg h,List.getD_eq_getElem?_getD,List.getElem?_set_ne (Ne.symm h),List.getD_eq_getElem?_getD]
def BN (os:List AU) (k:Nat):List Int:=((ob os k).field.map (AB os)).filter fun x=>decide (0≤x)
def E (os:List AU) (k i:Nat):Int:=((BN os k).count (i:Int):Nat)
theorem CY {os:List AU} {k:Nat} {x:Int} (h:x∈BN os k):0≤x∧x.toNat<8∧x=(x.toNat:Int)∧os.length=8∧(ob os x.toNat).live=true:=by
 obtain ⟨h1,h2⟩:=List.mem_filter.1 h
 obtain ⟨f,_,rfl⟩:=List.mem_map.1 h1
 have h2:0≤AB os f:=by simpa using h2
 have:=BL h2
 exact ⟨h2,this.2.2.2.1,by omega,this.1,this.2.2.2.2.1⟩
theorem MV {os:List AU} (hof: ∀o∈os,OF o) {k:Nat} (hk:k<os.length):(BN os k).length≤3:=by
 have:=List.length_filter_le (fun x=>decide (0≤x)) ((ob os k).field.map (AB os))
 rw [List.length_map,(hof _ (GG hk)).len] at this
 exact this
theorem SK (os:List AU) (k i:Nat):0≤E os k i:=Int.natCast_nonneg _
theorem rG {os:List AU} {k i:Nat} (h:(i:Int)∉BN os k):E os k i=0:=by
 unfold E;rw [List.count_eq_zero.2 h];rfl
inductive Reach (os:List AU) (s:Nat):Nat→Prop
 | refl:Reach os s s
 | step {k:Nat} {j:Int}:Reach os s k→j∈BN os k→Reach os s j.toNat
theorem Reach.trans {os:List AU} {a b c:Nat} (h:Reach os a b) (g:Reach os b c):Reach os a c:=by
 induction g with
 | refl=>exact h
 | step _ hj ih=>exact .step ih hj
theorem Reach.closed {os:List AU} {P:Nat→Prop} {s k:Nat} (h:Reach os s k) (hs:P s) (hc: ∀k,P k→ ∀j∈BN os k,P j.toNat):P k:=by
 induction h with
 | refl=>exact hs
 | step _ hj ih=>exact hc _ ih _ hj
theorem Reach.lt {os:List AU} {s k:Nat} (h:Reach os s k) (hs:s<8):k<8:=h.closed (P:=fun k=>k<8) hs fun _ _ _ hj=>(CY hj).2.1
def S (os:List AU) (P:Nat→Bool) (i:Nat):Int:=GN 8 fun k=>if P k then E os k i else 0
theorem gD {os:List AU} {P Q:Nat→Bool} {i:Nat} (h: ∀k,k<8→P k=Q k):S os P i=S os Q i:=KE fun k hk=>by rw [h k hk]
theorem nQ {os:List AU} {P Q:Nat→Bool} {i k0:Nat} (hk:k0<8) (h0:P k0=false) (h1:Q k0=true) (h: ∀k,k<8→k≠k0→P k=Q k):S os Q i=S os P i+E os k0 i:=by
 unfold S
 rw [SZ (n:=8) (f:=fun k=>if P k then E os k i else 0) (g:=fun k=>if Q k then E os k i else 0) hk fun k hk hne=>by rw [h k hk hne]]
 simp only [h0,h1];simp
theorem ZX {os:List AU} {P:Nat→Bool} {i:Nat}:S os P i+S os (fun k=> !P k) i=S os (fun _=>true) i:=by
 unfold S
 rw [←iX]
 refine KE fun k hk=> ?_
 cases h:P k <;> simp [h]
def isC (col:List Int) (c:Int) (k:Nat):Bool:=decide (gI col k=c)
theorem PY {col:List Int} {c:Int} {k s:Nat} (hs:s<col.length):isC (col.set s c) c k=(decide (k=s)||isC col c k):=by
 unfold isC
 rw [D7 hs]
 by_cases h:k=s
 ·simp [h]
 ·simp [h]
def JA (col:List Int) (c:Int):Nat:=(GN 8 fun k=>if isC col c k then 0 else 1).toNat
theorem gH {a b:List Int} {c:Int} (h: ∀k,k<8→gI a k=c→gI b k=c):JA b c≤JA a c:=by
 have:GN 8 (fun k=>if isC b c k then 0 else 1)≤GN 8 (fun k=>if isC a c k then 0 else 1):=LY fun k hk=>by
  by_cases h1:gI a k=c
  ·simp [isC,h1,h k hk h1]
  ·by_cases h3:gI b k=c <;> simp [isC,h1,h3]
 unfold JA;omega
theorem KW {a b:List Int} {c:Int} {s:Nat} (hs:s<8) (h0:gI a s≠c) (h1:gI b s=c) (h: ∀k,k<8→gI a k=c→gI b k=c):JA b c<JA a c:=by
 have hle:GN 8 (fun k=>if isC b c k then 0 else 1)≤GN 8 (fun k=>if isC a c k∨k=s then 0 else 1):=LY fun k hk=>by
  by_cases h2:gI a k=c
  ·simp [isC,h2,h k hk h2]
  ·by_cases hks:k=s
   ·subst hks;simp [isC,h1]
   ·by_cases h3:gI b k=c <;> simp [isC,h2,h3,hks]
 have hu:=SZ (n:=8) (k0:=s) (f:=fun k=>if isC a c k∨k=s then (0:Int) else 1) (g:=fun k=>if isC a c k then (0:Int) else 1) hs fun k hk hne=>by simp [hne]
 have e1:isC a c s=false:=by simp [isC,h0]
 simp only [e1,or_true,if_true] at hu
 have h3:0≤GN 8 (fun k=>if isC b c k then (0:Int) else 1):=by
  have:=LY (n:=8) (f:=fun _=>0) (g:=fun k=>if isC b c k then (0:Int) else 1) fun k hk=>by split <;> simp
  rw [JZ (fun _ _=>rfl)] at this;exact this
 simp only [Bool.false_eq_true,if_false] at hu
 unfold JA;omega
theorem SY (col:List Int) (c:Int):JA col c≤8:=by
 have:GN 8 (fun k=>if isC col c k then (0:Int) else 1)≤GN 8 (fun _=>1):=LY fun k hk=>by split <;> simp
 have e:GN 8 (fun _=>(1:Int))=8:=rfl
 unfold JA;omega
structure JJ (os:List AU) (c m:Int) (cs col cs' col':List Int) (s:Nat):Prop where
 len:cs'.length=8∧col'.length=8
 f: ∀i,i<8→F64 (gI cs' i)
 KK: ∀k,k<8→gI col k=c→gI col' k=c
 only: ∀k,k<8→gI col' k≠c→gI col' k=gI col k
 got:gI col' s=c
 clo: ∀k,k<8→gI col' k=c→gI col k≠c→Reach os s k∧ ∀j∈BN os k,gI col' j.toNat=c
 cnt: ∀i,i<8→gI cs' i=w64 (gI cs i+m*(S os (isC col' c) i-S os (isC col c) i))
theorem JJ.refl {os:List AU} {c m:Int} {cs col:List Int} {s:Nat} (h1:cs.length=8) (h2:col.length=8) (hf: ∀i,i<8→F64 (gI cs i)) (hs:gI col s=c):JJ os c m cs col cs col s:=
 ⟨⟨h1,h2⟩,hf,fun _ _ h=>h,fun _ _ _=>rfl,hs,fun _ _ h1 h2=>absurd h1 h2,fun i hi=>by rw [Int.sub_self,Int.mul_zero,Int.add_zero,LO (hf i hi)]⟩
end Go.Proofs.Ytklmcfpgdfibnaa.P
namespace Go.Proofs.Ytklmcfpgdfibnaa.P
open Go Go.Proofs.Ytklmcfpgdfibnaa Go.Proofs.Ytklmcfpgdfibnaa.Eng
set_option linter.unusedVariables false
set_option maxHeartbeats 4000000
set_option linter.unusedVariables false
set_option linter.unusedSimpArgs false
attribute [local irreducible] prP gP gE gF AW ixW ldc ldg ldl stc stg scW mkW apW BK cl2 BW EI CM
variable {w0:World}
theorem X3 {os:List AU} {l:List Int} {i:Nat} (hi:i<l.length):((l.take (i+1)).map (AB os)).filter (fun x=>decide (0≤x))=((l.take i).map (AB os)).filter (fun x=>decide (0≤x))++(if 0≤AB os (gI l i) then [AB os (gI l i)] else []):=by
 rw [List.take_succ_eq_append_getElem hi,List.map_append,List.filter_append,EN hi]
 congr 1
 by_cases h:0≤AB os (gI l i) <;> simp [h]
theorem O1 {os:List AU} {b c d:List T} {k:Nat} {K:J2} (hol:os.length=8) (hof: ∀o∈os,OF o) (hk:k<8) (h:K [] [tI (BN os k)]):cl2 ⟨Try.prog,w0⟩ 118 EA.sg [I k] [tR tO os,b,c,d] K:=by
 have hkl:k<os.length:=by omega
 have ho:=hof _ (GG hkl)
 refine EA.cl2 ?_
 unfold EA.txt
 simp only [AG,AM,AK,AP,AI,AD,AE,AR,AQ,AO,AL,AJ,AN,AH,BC,BF,BJ,BG,BH,BI,BE,A6,A7,A1,A4,A5,AZ]
 refine AT hkl (PA (f:=tO) (i:=k) hkl (by decide) rfl ?_)
 rw [GZ hkl,AD,ho.len]
 refine BB (fun i=>[iv (AA (iv k)*8+6),iv 3,iv i]) (fun i=>[tI ((((ob os k).field.take i).map (AB os)).filter fun x=>decide (0≤x))]) 3 (fun _=>True) rfl rfl trivial (fun R i hi hP hR=> ?_)
 have hln:=List.length_filter_le (fun x=>decide (0≤x)) (((ob os k).field.take i).map (AB os))
 have hl2:(((ob os k).field.take i).map (AB os)).length≤i:=by simp;omega
 simp only [AG,AM,AK,AP,AI,AD,AE,AR,AQ,AO,AL,AJ,AN,AH,BC,BF,BJ,BG,BH,BI,BE,A6,A7,A1,A4,A5,AZ]
 rw [AY (AA (iv k)*8+6),GZ hkl,AD]
 refine AX (AV (fun hlt=> ?_) fun hge=> ?_)
 ·have hlt:i<(ob os k).field.length:=by have:=ho.len;omega
  replace hR:=hR (by omega) trivial
  rw [X3 hlt] at hR
  refine BP (AT hlt (L4 hkl hlt (CQ (ho.fld _ (DT hlt)) (by omega) (K3 (AV (fun hs=> ?_) fun hs=> ?_)))))
  ·rw [if_pos hs, ←EG] at hR
   refine EM rfl (by omega) (BA (by omega) ?_)
   exact hR
  ·rw [if_neg hs,List.append_nil] at hR
   exact BA (by omega) hR
 ·have:i=3:=by omega
  subst this
  have e:(ob os k).field.take 3=(ob os k).field:=List.take_of_length_le (by rw [ho.len];omega)
  rw [e];exact h
theorem MR {os:List AU} {b c d:List T} {k:Nat} {K:J2} (hol:os.length=8) (hof: ∀o∈os,OF o) (hk:k<8) (h:K [] [tI (BN os k)]):cl2 ⟨Try.prog,w0⟩ 170 DU.sg [I k] [tR tO os,b,c,d] K:=by
 have hkl:k<os.length:=by omega
 have ho:=hof _ (GG hkl)
 refine DU.cl2 ?_
 unfold DU.txt
 simp only [AG,AM,AK,AP,AI,AD,AE,AR,AQ,AO,AL,AJ,AN,AH,BC,BF,BJ,BG,BH,BI,BE,A6,A7,A1,A4,A5,AZ]
 refine BB (fun i=>[I k,iv i]) (fun i=>[tI ((((ob os k).field.take i).map (AB os)).filter fun x=>decide (0≤x))]) 3 (fun _=>True) rfl rfl trivial (fun R i hi hP hR=> ?_)
 have hln:=List.length_filter_le (fun x=>decide (0≤x)) (((ob os k).field.take i).map (AB os))
 have hl2:(((ob os k).field.take i).map (AB os)).length≤i:=by simp;omega
 simp only [AG,AM,AK,AP,AI,AD,AE,AR,AQ,AO,AL,AJ,AN,AH,BC,BF,BJ,BG,BH,BI,BE,A6,A7,A1,A4,A5,AZ]
 refine AT hkl (PA (f:=tO) (i:=k) hkl (by decide) rfl ?_)
 rw [GZ hkl,AD,ho.len]
 refine AX (AV (fun hlt=> ?_) fun hge=> ?_)
 ·have hlt:i<(ob os k).field.length:=by have:=ho.len;omega
  replace hR:=hR (by omega) trivial
  rw [X3 hlt] at hR
  refine BP (AT hkl (PA (f:=tO) (i:=k) hkl (by decide) rfl ?_))
  rw [GZ hkl,AD]
  refine AT hlt (L4 hkl hlt (CP (ho.fld _ (DT hlt)) (by omega) (K3 (AV (fun hs=> ?_) fun hs=> ?_))))
  ·rw [if_pos hs, ←EG] at hR
   refine EM rfl (by omega) (BA (by omega) ?_)
   exact hR
  ·rw [if_neg hs,List.append_nil] at hR
   exact BA (by omega) hR
 ·have:i=3:=by omega
  subst this
  have e:(ob os k).field.take 3=(ob os k).field:=List.take_of_length_le (by rw [ho.len];omega)
  rw [e];exact h
theorem XH {l:List Int} {i:Nat} {v:Int} {K:List T→Prop} (hi:i<l.length) (h:K (tI (l.set i v))):stc (tI l) [] (AA (iv i)*1) (I v) K:=sL hi h
structure LN (os:List AU) (c m:Int) (cs col:List Int) (s:Nat) (q:Nat×List Int×List Int):Prop where
 j:q.1≤(BN os s).length
 len:q.2.1.length=8∧q.2.2.length=8
 f: ∀i,i<8→F64 (gI q.2.1 i)
 KK: ∀k,k<8→gI col k=c∨k=s→gI q.2.2 k=c
 only: ∀k,k<8→gI q.2.2 k≠c→gI q.2.2 k=gI col k
 clo: ∀k,k<8→k≠s→gI q.2.2 k=c→gI col k≠c→Reach os s k∧ ∀j∈BN os k,gI q.2.2 j.toNat=c
 done: ∀x∈(BN os s).take q.1,gI q.2.2 x.toNat=c
 cnt: ∀i,i<8→gI q.2.1 i=w64 (gI cs i+m*(S os (isC q.2.2 c) i-S os (isC col c) i-(((BN os s).drop q.1).count (i:Int):Nat)))
theorem LN.start {os:List AU} {c m:Int} {cs col:List Int} {s:Nat} (hs:s<8) (h1:cs.length=8) (h2:col.length=8) (hf: ∀i,i<8→F64 (gI cs i)) (h0:gI col s≠c):LN os c m cs col s (0,cs,col.set s c):=by
 refine ⟨Nat.zero_le _,⟨h1,by simpa using h2⟩,hf,fun k hk h=> ?_,fun k hk h=> ?_,fun k hk hne h3 h4=> ?_,fun x hx=>by simp at hx,fun i hi=> ?_⟩
 ·simp only;rw [D7 (by omega)];split
  ·rfl
  ·rename_i hh;exact h.resolve_right hh
 ·simp only at h ⊢;rw [D7 (by omega)] at h ⊢;split
  ·rename_i hh;rw [if_pos hh] at h;exact absurd rfl h
  ·rfl
 ·simp only at h3;rw [D7 (by omega),if_neg hne] at h3;exact absurd h3 h4
 ·simp only
  have e:=nQ (os:=os) (P:=isC col c) (Q:=isC (col.set s c) c) (i:=i) hs (by simp [isC,h0]) (by rw [PY (by omega)];simp) fun k hk hne=>by rw [PY (by omega)];simp [hne]
  rw [e,List.drop_zero]
  have:(((BN os s).count (i:Int):Nat):Int)=E os s i:=rfl
  rw [this]
  have e2:S os (isC col c) i+E os s i-S os (isC col c) i-E os s i=0:=by omega
  rw [e2,Int.mul_zero,Int.add_zero,LO (hf i hi)]
theorem LN.step {os:List AU} {c m:Int} {cs col:List Int} {s:Nat} {j:Nat} {cs1 col1 cs2 col2:List Int} (hs:s<8) (h:LN os c m cs col s (j,cs1,col1)) (hj:j<(BN os s).length) (p:JJ os c m (cs1.set (gI (BN os s) j).toNat (w64 (gI cs1 (gI (BN os s) j).toNat+m))) col1 cs2 col2 (gI (BN os s) j).toNat):LN os c m cs col s (j+1,cs2,col2):=by
 have hx:=CY (DT hj)
 have l1:=h.len
 refine ⟨by simp only;omega,p.len,p.f,fun k hk hh=>p.KK k hk (h.KK k hk hh),fun k hk hne=> ?_,fun k hk hne h3 h4=> ?_,fun x hx=> ?_,fun i hi=> ?_⟩
 ·have e:=p.only k hk hne
  simp only at hne ⊢
  rw [e]
  exact h.only k hk (by simp only;rw [←e];exact hne)
 ·by_cases h5:gI col1 k=c
  ·obtain ⟨g1,g2⟩:=h.clo k hk hne h5 h4
   exact ⟨g1,fun y hy=>p.KK _ (CY hy).2.1 (g2 y hy)⟩
  ·obtain ⟨g1,g2⟩:=p.clo k hk h3 h5
   exact ⟨Reach.trans (.step .refl (DT hj)) g1,g2⟩
 ·simp only at hx ⊢
  rw [List.take_succ_eq_append_getElem hj,List.mem_append,List.mem_singleton] at hx
  rcases hx with hx | rfl
  ·exact p.KK _ (CY (List.mem_of_mem_take hx)).2.1 (h.done x hx)
  ·rw [EN hj];exact p.got
 ·have e1:=p.cnt i hi
  have e2:=h.cnt i hi
  simp only at e1 e2 ⊢
  rw [D7 (by have:=h.len.1;simp only at this;omega)] at e1
  have e3:(((BN os s).drop j).count (i:Int):Int)=(if i=(gI (BN os s) j).toNat then 1 else 0)+(((BN os s).drop (j+1)).count (i:Int):Int):=by
   rw [drop_cons hj,List.count_cons]
   by_cases hh:i=(gI (BN os s) j).toNat
   ·have:(gI (BN os s) j==(i:Int))=true:=by simp;omega
    rw [if_pos hh,this];simp;omega
   ·have:(gI (BN os s) j==(i:Int))=false:=by simp;omega
    rw [if_neg hh,this];simp
  rw [e1]
  by_cases hh:i=(gI (BN os s) j).toNat
  ·rw [if_pos hh, ←hh,e2,ME,Int.add_assoc,ME]
   rw [if_pos hh] at e3
   congr 1
   rw [e3]
   generalize S os (isC col2 c) i=a
   generalize S os (isC col1 c) i=b
   generalize S os (isC col c) i=d
   generalize ((List.drop (j+1) (BN os s)).count (i:Int):Int)=e
   simp only [Int.mul_sub,Int.mul_add,Int.mul_one];omega
  ·rw [if_neg hh,e2,ME]
   rw [if_neg hh] at e3
   congr 1
   rw [e3]
   generalize S os (isC col2 c) i=a
   generalize S os (isC col1 c) i=b
   generalize S os (isC col c) i=d
   generalize ((List.drop (j+1) (BN os s)).count (i:Int):Int)=e
   simp only [Int.mul_sub,Int.mul_add,Int.mul_zero];omega
theorem LN.stop {os:List AU} {c m:Int} {cs col:List Int} {s:Nat} {cs1 col1:List Int} (hs:s<8) (h:LN os c m cs col s ((BN os s).length,cs1,col1)):JJ os c m cs col cs1 col1 s:=by
 refine ⟨h.len,h.f,fun k hk hh=>h.KK k hk (.inl hh),h.only,h.KK s hs (.inr rfl),fun k hk h3 h4=> ?_,fun i hi=> ?_⟩
 ·by_cases hks:k=s
  ·subst hks
   exact ⟨.refl,fun y hy=>h.done y (by simp only;rw [List.take_length];exact hy)⟩
  ·exact h.clo k hk hks h3 h4
 ·have:=h.cnt i hi
  simp only [List.drop_length,List.count_nil] at this
  rw [this];simp
theorem RF {os:List AU} {b c' d:List T} {c m:Int} (hol:os.length=8) (hof: ∀o∈os,OF o) (hc:F64 c) (hm:F64 m): ∀(n:Nat) {cs col:List Int} {s:Nat} {K:J2},JA col c≤n→s<8→cs.length=8→col.length=8→(∀i,i<8→F64 (gI cs i))→(∀cs' col',JJ os c m cs col cs' col' s→K [] [tI cs',tI col'])→cl2 ⟨Try.prog,w0⟩ 116 B3.sg [I s,I c,I m] [tI cs,tI col,tR tO os,b,c',d] K:=by
 intro n
 induction n with
 | zero=>
   intro cs col s K hn hs h1 h2 hf h
   refine B3.cl2 ?_
   unfold B3.txt
   simp only [AG,AM,AK,AP,AI,AD,AE,AR,AQ,AO,AL,AJ,AN,AH,BC,BF,BJ,BG,BH,BI,BE,A6,A7,A1,A4,A5,AZ]
   refine AT (by omega) (ldI (by omega) (BM (AV (fun he=>h _ _ (JJ.refl h1 h2 hf he)) fun he=> ?_)))
   have:=KW (a:=col) (b:=col.set s c) (c:=c) hs he (by rw [D7 (by omega)];simp) fun k hk hh=>by rw [D7 (by omega)];split <;> first | rfl | exact hh
   exact absurd this (by omega)
 | succ n ih=>
   intro cs col s K hn hs h1 h2 hf h
   refine B3.cl2 ?_
   unfold B3.txt
   simp only [AG,AM,AK,AP,AI,AD,AE,AR,AQ,AO,AL,AJ,AN,AH,BC,BF,BJ,BG,BH,BI,BE,A6,A7,A1,A4,A5,AZ]
   refine AT (by omega) (ldI (by omega) (BM (AV (fun he=>h _ _ (JJ.refl h1 h2 hf he)) fun he=> ?_)))
   refine AT (by omega) (XH (by omega) (O1 hol hof hs ?_))
   simp only [AG,AM,AK,AP,AI,AD,AE,AR,AQ,AO,AL,AJ,AN,AH,BC,BF,BJ,BG,BH,BI,BE,A6,A7,A1,A4,A5,AZ]
   have hkl:=MV hof (k:=s) (by omega)
   refine FD (α:=Nat×List Int×List Int) (fun q=>[I c,I m,iv (BN os s).length,iv q.1]) (fun q=>[tI (BN os s),tI q.2.1,tI q.2.2]) (fun q=>(BN os s).length-q.1) (LN os c m cs col s) (0,cs,col.set s c) rfl rfl (LN.start hs h1 h2 hf he) (fun R q hq hR=> ?_)
   obtain ⟨j,cs1,col1⟩:=q
   have hj:=hq.j
   have hl:=hq.len
   simp only at hj hl
   simp only [AG,AM,AK,AP,AI,AD,AE,AR,AQ,AO,AL,AJ,AN,AH,BC,BF,BJ,BG,BH,BI,BE,A6,A7,A1,A4,A5,AZ]
   refine AX (AV (fun hlt=> ?_) fun hge=> ?_)
   ·have hlt:j<(BN os s).length:=by omega
    obtain ⟨x1,x2,x3,_⟩:=CY (DT hlt)
    have hmiss:JA col1 c≤n:=by
     have:=KW (a:=col) (b:=col1) (c:=c) hs he (hq.KK s hs (.inr rfl)) fun k hk hh=>hq.KK k hk (.inl hh)
     omega
    have stp:=fun cs2 col2=>LN.step (cs2:=cs2) (col2:=col2) hs hq hlt
    obtain ⟨x,hx⟩: ∃x,(gI (BN os s) j).toNat=x:=⟨_,rfl⟩
    rw [hx] at x2 x3 stp
    refine AT hlt (ldI hlt ?_)
    rw [x3]
    refine AT (by omega) (ldI (by omega) (GA (AT (by omega) (XH (by omega) ?_))))
    refine ih hmiss x2 (by simpa using hl.1) hl.2 (fun i hi=> ?_) fun cs2 col2 p=> ?_
    ·rw [D7 (by omega)];split
     ·exact cE _
     ·exact hq.f i hi
    ·exact BA (by omega) (hR (j+1,cs2,col2) (stp _ _ p) (by simp only;omega))
   ·have:j=(BN os s).length:=by omega
    subst this
    exact h _ _ (LN.stop hs hq)
end Go.Proofs.Ytklmcfpgdfibnaa.P
namespace Go.Proofs.Ytklmcfpgdfibnaa.P
open Go Go.Proofs.Ytklmcfpgdfibnaa Go.Proofs.Ytklmcfpgdfibnaa.Eng
set_option linter.unusedVariables false
set_option maxHeartbeats 4000000
set_option linter.unusedVariables false
set_option linter.unusedSimpArgs false
attribute [local irreducible] prP gP gE gF AW ixW ldc ldg ldl stc stg scW mkW apW BK cl2 BW EI CM
variable {w0:World}
def W (os:List AU):List Int→Nat→Int
 | [],_=>0
 | x::l,i=>E os x.toNat i+W os l i
theorem q8 (os:List AU) (a b:List Int) (i:Nat):W os (a++b) i=W os a i+W os b i:=by
 induction a with
 | nil=>simp [W]
 | cons x a ih=>simp only [List.cons_append,W,ih];omega
structure Vw (row:List Int) (off:Nat) (todo:List Int):Prop where
 bd:off+todo.length≤row.length
 vw:(row.drop off).take todo.length=todo
theorem Vw.get {row todo:List Int} {off j:Nat} (h:Vw row off todo) (hj:j<todo.length):gI row (off+j)=gI todo j:=by
 have e:=congrArg (fun l=>l[j]?) h.vw
 simp only [List.getElem?_take,hj,if_true,List.getElem?_drop] at e
 unfold gI
 rw [List.getD_eq_getElem?_getD,List.getD_eq_getElem?_getD,e]
theorem Vw.pop {row todo:List Int} {off:Nat} (h:Vw row off todo):Vw row off todo.dropLast:=by
 refine ⟨by have:=h.bd;rw [List.length_dropLast];omega, ?_⟩
 have e:=congrArg List.dropLast h.vw
 rw [List.dropLast_eq_take,List.take_take] at e
 rw [List.length_dropLast, ←e,List.length_take,List.length_drop]
 have:=h.bd
 congr 1;omega
theorem Vw.new (todo:List Int):Vw todo 0 todo:=⟨by omega,by simp⟩
theorem X4 {todo:List Int} (h:todo.length>0):todo=todo.dropLast++[gI todo (todo.length-1)]:=by
 have hne:todo≠[]:=fun he=>by rw [he] at h;simp at h
 have:=(List.dropLast_concat_getLast hne).symm
 rw [List.getLast_eq_getElem hne,EN (by omega)] at this
 exact this
structure ON (os:List AU) (c m:Int) (cs0 col0:List Int) (s:Nat) (todo cs col:List Int):Prop where
 len:cs.length=8∧col.length=8
 f: ∀i,i<8→F64 (gI cs i)
 KK: ∀k,k<8→gI col0 k=c→gI col k=c
 only: ∀k,k<8→gI col k≠c→gI col k=gI col0 k
 got:gI col s=c
 td: ∀x∈todo,0≤x∧x.toNat<8∧gI col x.toNat=c∧gI col0 x.toNat≠c∧Reach os s x.toNat
 nd:todo.Nodup
 clo: ∀k,k<8→gI col k=c→gI col0 k≠c→Reach os s k∧((k:Int)∈todo∨ ∀j∈BN os k,gI col j.toNat=c)
 cnt: ∀i,i<8→gI cs i=w64 (gI cs0 i+m*(S os (isC col c) i-S os (isC col0 c) i-W os todo i))
 sz:todo.length+JA col c≤8
structure O5 (os:List AU) (c m:Int) (cs0 col0:List Int) (s:Nat) (k j:Nat) (todo cs col:List Int):Prop where
 len:cs.length=8∧col.length=8
 f: ∀i,i<8→F64 (gI cs i)
 KK: ∀k,k<8→gI col0 k=c→gI col k=c
 only: ∀k,k<8→gI col k≠c→gI col k=gI col0 k
 got:gI col s=c
 td: ∀x∈todo,0≤x∧x.toNat<8∧gI col x.toNat=c∧gI col0 x.toNat≠c∧Reach os s x.toNat
 nd:todo.Nodup
 me:k<8∧Reach os s k
 clo: ∀x,x<8→x≠k→gI col x=c→gI col0 x≠c→Reach os s x∧((x:Int)∈todo∨ ∀j∈BN os x,gI col j.toNat=c)
 done: ∀x∈(BN os k).take j,gI col x.toNat=c
 cnt: ∀i,i<8→gI cs i=w64 (gI cs0 i+m*(S os (isC col c) i-S os (isC col0 c) i-W os todo i-(((BN os k).drop j).count (i:Int):Nat)))
 sz:todo.length+JA col c≤8
section
variable {os:List AU} {c m:Int} {cs0 col0 cs col todo:List Int} {s k j:Nat}
theorem ON.start (hs:s<8) (h1:cs0.length=8) (h2:col0.length=8) (hf: ∀i,i<8→F64 (gI cs0 i)) (h0:gI col0 s≠c):ON os c m cs0 col0 s [(s:Int)] cs0 (col0.set s c):=by
 have hkeep: ∀k,k<8→gI col0 k=c→gI (col0.set s c) k=c:=fun k hk h=>by rw [D7 (by omega)];split <;> first | rfl | exact h
 have hgot:gI (col0.set s c) s=c:=by rw [D7 (by omega)];simp
 refine ⟨⟨h1,by simpa using h2⟩,hf,hkeep,fun k hk h=> ?_,hgot,fun x hx=> ?_,by simp,fun k hk h3 h4=> ?_,fun i hi=> ?_, ?_⟩
 ·rw [D7 (by omega)] at h ⊢;split
  ·rename_i hh;rw [if_pos hh] at h;exact absurd rfl h
  ·rfl
 ·have hx:x=(s:Int):=by simpa using hx
  subst hx
  rw [Int.toNat_natCast]
  exact ⟨by omega,hs,hgot,h0, .refl⟩
 ·rw [D7 (by omega)] at h3
  by_cases hh:k=s
  ·subst hh;exact ⟨.refl, .inl (by simp)⟩
  ·rw [if_neg hh] at h3;exact absurd h3 h4
 ·have e:=nQ (os:=os) (P:=isC col0 c) (Q:=isC (col0.set s c) c) (i:=i) hs (by simp [isC,h0]) (by rw [PY (by omega)];simp) fun k hk hne=>by rw [PY (by omega)];simp [hne]
  simp only [W,Int.toNat_natCast]
  rw [e]
  have e2:S os (isC col0 c) i+E os s i-S os (isC col0 c) i-(E os s i+0)=0:=by omega
  rw [e2,Int.mul_zero,Int.add_zero,LO (hf i hi)]
 ·have:=KW hs h0 hgot hkeep
  have:=SY col0 c
  simp only [List.length_singleton];omega
theorem ON.stop (h:ON os c m cs0 col0 s [] cs col):JJ os c m cs0 col0 cs col s:=
 ⟨h.len,h.f,h.KK,h.only,h.got,fun k hk h3 h4=>⟨(h.clo k hk h3 h4).1,(h.clo k hk h3 h4).2.resolve_left (by simp)⟩,fun i hi=>by have:=h.cnt i hi;simp only [W,Int.sub_zero] at this;exact this⟩
theorem ON.pop (h:ON os c m cs0 col0 s todo cs col) (hl:todo.length>0) (hk:(gI todo (todo.length-1)).toNat=k):gI todo (todo.length-1)=(k:Int)∧k<8∧O5 os c m cs0 col0 s k 0 todo.dropLast cs col:=by
 have e:=X4 hl
 have hm:gI todo (todo.length-1)∈todo:=DT (by omega)
 obtain ⟨t1,t2,t3,t4,t5⟩:=h.td _ hm
 rw [hk] at t2 t3 t4 t5
 have e2:gI todo (todo.length-1)=(k:Int):=by omega
 rw [e2] at e
 have hnd:=h.nd
 rw [e,List.nodup_append] at hnd
 refine ⟨e2,t2,h.len,h.f,h.KK,h.only,h.got,fun x hx=>h.td x (List.dropLast_subset _ hx),hnd.1,⟨t2,t5⟩,fun x hx hne h3 h4=> ?_,by simp,fun i hi=> ?_, ?_⟩
 ·obtain ⟨g1,g2⟩:=h.clo x hx h3 h4
  refine ⟨g1,g2.imp_left fun g=> ?_⟩
  rw [e,List.mem_append,List.mem_singleton] at g
  exact g.resolve_right (by omega)
 ·rw [h.cnt i hi]
  have:W os todo i=W os todo.dropLast i+E os k i:=by
   conv=>lhs;rw [e]
   rw [q8];simp [W]
  rw [this,List.drop_zero]
  congr 3
  have e3:(((BN os k).count (i:Int):Nat):Int)=E os k i:=rfl
  rw [e3];omega
 ·have:=h.sz
  rw [List.length_dropLast];omega
theorem O5.stop (h:O5 os c m cs0 col0 s k (BN os k).length todo cs col):ON os c m cs0 col0 s todo cs col:=by
 refine ⟨h.len,h.f,h.KK,h.only,h.got,h.td,h.nd,fun x hx h3 h4=> ?_,fun i hi=> ?_,h.sz⟩
 ·by_cases hk:x=k
  ·subst hk
   exact ⟨h.me.2, .inr fun y hy=>h.done y (by rw [List.take_length];exact hy)⟩
  ·exact h.clo x hx hk h3 h4
 ·have:=h.cnt i hi
  simp only [List.drop_length,List.count_nil] at this
  rw [this];simp
theorem bU {l:List Int} {j i:Nat} {x:Nat} (hj:j<l.length) (hx:gI l j=(x:Int)):((l.drop j).count (i:Int):Int)=(if i=x then 1 else 0)+((l.drop (j+1)).count (i:Int):Int):=by
 rw [drop_cons hj,List.count_cons,hx]
 by_cases hh:i=x
 ·have:((x:Int)==(i:Int))=true:=by simp;omega
  rw [if_pos hh,this];simp;omega
 ·have:((x:Int)==(i:Int))=false:=by simp;omega
  rw [if_neg hh,this];simp
theorem O5.old (h:O5 os c m cs0 col0 s k j todo cs col) (hj:j<(BN os k).length) {x:Nat} (hx:gI (BN os k) j=(x:Int)) (hc:gI col x=c):O5 os c m cs0 col0 s k (j+1) todo (cs.set x (w64 (gI cs x+m))) col:=by
 have x8:x<8:=by have:=(CY (DT hj)).2.1;rw [hx] at this;simpa using this
 have hl:=h.len
 refine ⟨⟨by simpa using hl.1,hl.2⟩,fun i hi=> ?_,h.KK,h.only,h.got,h.td,h.nd,h.me,h.clo,fun y hy=> ?_,fun i hi=> ?_,h.sz⟩
 ·rw [D7 (by omega)];split
  ·exact cE _
  ·exact h.f i hi
 ·rw [List.take_succ_eq_append_getElem hj,List.mem_append,List.mem_singleton] at hy
  rcases hy with hy | rfl
  ·exact h.done y hy
  ·rw [EN hj,hx,Int.toNat_natCast];exact hc
 ·rw [D7 (by omega)]
  have e2:=h.cnt i hi
  have e3:=bU (i:=i) hj hx
  by_cases hh:i=x
  ·rw [if_pos hh, ←hh,e2,ME]
   rw [if_pos hh] at e3
   congr 1
   rw [e3]
   generalize S os (isC col c) i=a
   generalize S os (isC col0 c) i=b
   generalize W os todo i=d
   generalize ((List.drop (j+1) (BN os k)).count (i:Int):Int)=e
   simp only [Int.mul_sub,Int.mul_add,Int.mul_one];omega
  ·rw [if_neg hh,e2]
   rw [if_neg hh] at e3
   rw [e3,Int.zero_add]
theorem O5.new (h:O5 os c m cs0 col0 s k j todo cs col) (hj:j<(BN os k).length) {x:Nat} (hx:gI (BN os k) j=(x:Int)) (hc:gI col x≠c):O5 os c m cs0 col0 s k (j+1) (todo++[(x:Int)]) (cs.set x (w64 (gI cs x+m))) (col.set x c):=by
 have x8:x<8:=by have:=(CY (DT hj)).2.1;rw [hx] at this;simpa using this
 have hl:=h.len
 have hgot:gI (col.set x c) x=c:=by rw [D7 (by omega)];simp
 have kp: ∀y,gI col y=c→gI (col.set x c) y=c:=fun y hy=>by rw [D7 (by omega)];split <;> first | rfl | exact hy
 have hrx:Reach os s x:=by have:=Reach.step h.me.2 (DT hj);rw [hx] at this;simpa using this
 have h0x:gI col0 x≠c:=fun he=>hc (h.KK x x8 he)
 refine ⟨⟨by simpa using hl.1,by simpa using hl.2⟩,fun i hi=> ?_,fun y hy he=>kp y (h.KK y hy he),fun y hy he=> ?_,kp s h.got,fun y hy=> ?_, ?_,h.me,fun y hy hne h3 h4=> ?_,fun y hy=> ?_,fun i hi=> ?_, ?_⟩
 ·rw [D7 (by omega)];split
  ·exact cE _
  ·exact h.f i hi
 ·rw [D7 (by omega)] at he ⊢
  split
  ·rename_i hh;rw [if_pos hh] at he;exact absurd rfl he
  ·rename_i hh;rw [if_neg hh] at he;exact h.only y hy he
 ·rw [List.mem_append,List.mem_singleton] at hy
  rcases hy with hy | rfl
  ·obtain ⟨a1,a2,a3,a4,a5⟩:=h.td y hy
   exact ⟨a1,a2,kp _ a3,a4,a5⟩
  ·rw [Int.toNat_natCast]
   exact ⟨by omega,x8,hgot,h0x,hrx⟩
 ·rw [List.nodup_append]
  refine ⟨h.nd,by simp,fun a ha b hb=> ?_⟩
  have hb:b=(x:Int):=by simpa using hb
  subst hb
  intro he
  subst he
  exact hc (by have:=(h.td _ ha).2.2.1;rwa [Int.toNat_natCast] at this)
 ·by_cases hyx:y=x
  ·subst hyx;exact ⟨hrx, .inl (by simp)⟩
  ·rw [D7 (by omega),if_neg hyx] at h3
   obtain ⟨g1,g2⟩:=h.clo y hy hne h3 h4
   exact ⟨g1,g2.elim (fun g=> .inl (List.mem_append_left _ g)) fun g=> .inr fun z hz=>kp _ (g z hz)⟩
 ·rw [List.take_succ_eq_append_getElem hj,List.mem_append,List.mem_singleton] at hy
  rcases hy with hy | rfl
  ·exact kp _ (h.done y hy)
  ·rw [EN hj,hx,Int.toNat_natCast];exact hgot
 ·rw [D7 (by omega)]
  have e2:=h.cnt i hi
  have e3:=bU (i:=i) hj hx
  have e:=nQ (os:=os) (P:=isC col c) (Q:=isC (col.set x c) c) (i:=i) x8 (by simp [isC,hc]) (by rw [PY (by omega)];simp) fun k hk hne=>by rw [PY (by omega)];simp [hne]
  have ew:W os (todo++[(x:Int)]) i=W os todo i+E os x i:=by rw [q8];simp [W]
  rw [e,ew]
  by_cases hh:i=x
  ·rw [if_pos hh, ←hh,e2,ME]
   rw [if_pos hh] at e3
   congr 1
   rw [e3,hh]
   generalize S os (isC col c) x=a
   generalize S os (isC col0 c) x=b
   generalize W os todo x=d
   generalize E os x x=g
   generalize ((List.drop (j+1) (BN os k)).count (x:Int):Int)=e
   have:a+g-b-(d+g)-e=a-b-d-(1+e)+1:=by omega
   rw [this,Int.mul_add,Int.mul_one];omega
  ·rw [if_neg hh,e2]
   rw [if_neg hh] at e3
   rw [e3]
   congr 3
   omega
 ·have:=KW (c:=c) x8 hc hgot fun y _ hy=>kp y hy
  have:=h.sz
  simp only [List.length_append,List.length_singleton];omega
end
end Go.Proofs.Ytklmcfpgdfibnaa.P
namespace Go.Proofs.Ytklmcfpgdfibnaa.P
open Go Go.Proofs.Ytklmcfpgdfibnaa Go.Proofs.Ytklmcfpgdfibnaa.Eng
set_option linter.unusedVariables false
set_option maxHeartbeats 4000000
set_option linter.unusedVariables false
set_option linter.unusedSimpArgs false
attribute [local irreducible] prP gP gE gF AW ixW ldc ldg ldl stc stg scW mkW apW BK cl2 BW EI CM
variable {w0:World}
theorem NM {a b:List Int} {K:J2} (h1:a.length≤100) (h2:b.length≤100) (h:K [] [tI a,tI b]):cl2 ⟨Try.prog,w0⟩ 114 C8.sg [] [tI a,tI b] K:=by
 refine C8.cl2 ?_
 unfold C8.txt
 exact HN (by omega) (HN (by omega) h)
theorem QJ {a b:List Int} {K:J2} (h1:a.length≤100) (h2:b.length≤100) (h:K [] [tI a,tI b]):cl2 ⟨Try.prog,w0⟩ 168 FH.sg [] [tI a,tI b] K:=by
 refine FH.cl2 ?_
 unfold FH.txt
 rw [List.nil_append,List.nil_append]
 simp only [AG,AM,AK,AP,AI,AD,AE,AR,AQ,AO,AL,AJ,AN,AH,BC,BF,BJ,BG,BH,BI,BE,A6,A7,A1,A4,A5,AZ]
 exact EM (MG _) (by first | omega | (simp only [cnt,List.length_nil];omega)) (EM (MG _) (by first | omega | (simp only [cnt,List.length_nil];omega)) h)
theorem QK {os:List AU} {b c d:List T} {cs col:List Int} {id:Int} {K:J2} (hol:os.length=8) (h1:cs.length=8) (h2:col.length=8) (hno:AB os id<0→K [.bool false] []) (hyes:0≤AB os id→K [.bool true] []):cl2 ⟨Try.prog,w0⟩ 115 FC.sg [I (AB os id)] [tR tO os,b,c,d,tI cs,tI col] K:=by
 refine FC.cl2 ?_
 unfold FC.txt
 simp only [AG,AM,AK,AP,AI,AD,AE,AR,AQ,AO,AL,AJ,AN,AH,BC,BF,BJ,BG,BH,BI,BE,A6,A7,A1,A4,A5,AZ]
 refine BM ?_
 have e1:(os.length:Int)=8:=by omega
 have e2:(cs.length:Int)=8:=by omega
 have e3:(col.length:Int)=8:=by omega
 by_cases hs:AB os id<0
 ·have:=hno hs
  repeat' (first | refine GI ?_ | refine BO ?_ | refine H4 (by first | with_reducible assumption | omega) ?_ | refine ML (by first | with_reducible assumption | omega) ?_ | refine C4 (by first | with_reducible assumption | omega) rfl ?_ | refine C5 (by first | with_reducible assumption | omega) rfl ?_ | refine BM ?_)
  all_goals first | exact this | omega
 ·have:=hyes (by omega)
  have hk:=BL (l:=os) (id:=id) (by omega)
  obtain ⟨k,hkk⟩: ∃k,(AB os id).toNat=k:=⟨_,rfl⟩
  have hkI:AB os id=(k:Int):=by omega
  rw [hkk] at hk
  rw [hkI]
  have hkl:k<os.length:=by omega
  repeat' (first | refine KB (v:= .bool true) hkl (by simp [tO,hk.2.2.2.2.1]) ?_ | refine GI ?_ | refine BO ?_ | refine H4 (by first | with_reducible assumption | omega) ?_ | refine C4 (by first | with_reducible assumption | omega) rfl ?_ | refine BM ?_ | refine AT (by omega) ?_)
  all_goals first | exact this | omega
theorem TJ {os:List AU} {b c d:List T} {cs col:List Int} {id:Int} {K:J2} (hol:os.length=8) (h1:cs.length=8) (h2:col.length=8) (hno:AB os id<0→K [.bool false] []) (hyes:0≤AB os id→K [.bool true] []):cl2 ⟨Try.prog,w0⟩ 169 G7.sg [I (AB os id)] [tR tO os,b,c,d,tI cs,tI col] K:=by
 refine G7.cl2 ?_
 unfold G7.txt
 simp only [AG,AM,AK,AP,AI,AD,AE,AR,AQ,AO,AL,AJ,AN,AH,BC,BF,BJ,BG,BH,BI,BE,A6,A7,A1,A4,A5,AZ]
 refine BM ?_
 have e1:(os.length:Int)=8:=by omega
 have e2:(cs.length:Int)=8:=by omega
 have e3:(col.length:Int)=8:=by omega
 by_cases hs:AB os id<0
 ·have:=hno hs
  repeat' (first | refine DX ?_ | refine BO ?_ | refine H4 (by first | with_reducible assumption | omega) ?_ | refine ML (by first | with_reducible assumption | omega) ?_ | refine C4 (by first | with_reducible assumption | omega) rfl ?_ | refine C5 (by first | with_reducible assumption | omega) rfl ?_ | refine BM ?_)
  all_goals first | exact this | omega
 ·have:=hyes (by omega)
  have hk:=BL (l:=os) (id:=id) (by omega)
  obtain ⟨k,hkk⟩: ∃k,(AB os id).toNat=k:=⟨_,rfl⟩
  have hkI:AB os id=(k:Int):=by omega
  rw [hkk] at hk
  rw [hkI]
  have hkl:k<os.length:=by omega
  repeat' (first | refine KB (v:= .bool true) hkl (by simp [tO,hk.2.2.2.2.1]) ?_ | refine DX ?_ | refine BO ?_ | refine H4 (by first | with_reducible assumption | omega) ?_ | refine C4 (by first | with_reducible assumption | omega) rfl ?_ | refine BM ?_ | refine AT (by omega) ?_)
  all_goals first | exact this | omega
theorem UU {n i:Nat} (hi:i≤n) {K:Value→Value→Prop} (h:K (iv 0) (iv i)):scW n none (some (.int .i64 i)) K:=Z9 hi h
theorem WH {os:List AU} {b c' d:List T} {cs col:List Int} {s:Nat} {K:J2} (hol:os.length=8) (hof: ∀o∈os,OF o) (hs:s<8) (h1:cs.length=8) (h2:col.length=8) (hf: ∀i,i<8→F64 (gI cs i)) (h0:gI col s≠0) (h: ∀cs' col',JJ os 0 1 cs col cs' col' s→K [] [tI cs',tI col']):cl2 ⟨Try.prog,w0⟩ 171 FN.sg [I s] [tR tO os,b,c',d,tI cs,tI col] K:=by
 refine FN.cl2 ?_
 unfold FN.txt
 simp only [AG,AM,AK,AP,AI,AD,AE,AR,AQ,AO,AL,AJ,AN,AH,BC,BF,BJ,BG,BH,BI,BE,A6,A7,A1,A4,A5,AZ]
 refine AT (by omega) (XH (v:=0) (by omega) ?_)
 refine FD (α:=List Int×Nat×List Int×List Int×List Int) (fun q=>[iv q.2.2.1.length,iv q.2.1]) (fun q=>[tI q.1,tI q.2.2.2.1,tI q.2.2.2.2]) (fun q=>q.2.2.1.length+2*JA q.2.2.2.2 0) (fun q=>Vw q.1 q.2.1 q.2.2.1∧ON os 0 1 cs col s q.2.2.1 q.2.2.2.1 q.2.2.2.2) ([(s:Int)],0,[(s:Int)],cs,col.set s 0) rfl rfl ⟨Vw.new _,ON.start hs h1 h2 hf h0⟩ (fun R q hq hR=> ?_)
 obtain ⟨row,off,todo,cs1,col1⟩:=q
 obtain ⟨vw,wk⟩:=hq
 simp only at vw wk
 have hsz:=wk.sz
 have hbd:=vw.bd
 simp only [AG,AM,AK,AP,AI,AD,AE,AR,AQ,AO,AL,AJ,AN,AH,BC,BF,BJ,BG,BH,BI,BE,A6,A7,A1,A4,A5,AZ]
 simp only [AY]
 refine IF (AV (fun hlt=> ?_) fun hge=> ?_)
 ·have hlt:todo.length>0:=by omega
  obtain ⟨k,hk⟩: ∃k,(gI todo (todo.length-1)).toNat=k:=⟨_,rfl⟩
  obtain ⟨e1,k8,wj⟩:=wk.pop hlt hk
  have ev:((todo.length:Int)-1)=((todo.length-1:Nat):Int):=by omega
  refine H2 ⟨by omega,by omega⟩ ?_
  rw [ev]
  refine AT (by omega) ?_
  have eg:=vw.get (j:=todo.length-1) (by omega)
  have el:ldc (tI row) [] (off+AA (iv (todo.length-1))*1)=ldc (tI row) [] (AA (iv (off+(todo.length-1)))*1):=by rw [AY,AY];congr 1;omega
  rw [el]
  refine ldI (by omega) ?_
  rw [eg,e1]
  refine H2 ⟨by omega,by omega⟩ ?_
  rw [ev]
  refine UU (by omega) (MR hol hof k8 ?_)
  have hkl:=MV hof (k:=k) (by omega)
  refine FD (α:=Nat×List Int×Nat×List Int×List Int×List Int) (fun q=>[iv q.2.2.2.1.length,iv q.2.2.1,iv q.1]) (fun q=>[tI q.2.1,tI (BN os k),tI q.2.2.2.2.1,tI q.2.2.2.2.2]) (fun q=>(BN os k).length-q.1) (fun q=>q.1≤(BN os k).length∧Vw q.2.1 q.2.2.1 q.2.2.2.1∧O5 os 0 1 cs col s k q.1 q.2.2.2.1 q.2.2.2.2.1 q.2.2.2.2.2∧q.2.2.2.1.length+2*JA q.2.2.2.2.2 0<todo.length+2*JA col1 0) (0,row,off,todo.dropLast,cs1,col1) ?_ rfl ⟨Nat.zero_le _,vw.pop,wj,by simp only [List.length_dropLast];omega⟩ (fun R2 q hq hR2=> ?_)
  ·simp only [List.length_dropLast,AY,Nat.zero_mul,Nat.add_zero];rfl
  obtain ⟨j,row2,off2,todo2,cs2,col2⟩:=q
  obtain ⟨hj,vw2,wj2,hms⟩:=hq
  simp only at hj vw2 wj2 hms
  have hsz2:=wj2.sz
  have hbd2:=vw2.bd
  have hl2:=wj2.len
  simp only [AG,AM,AK,AP,AI,AD,AE,AR,AQ,AO,AL,AJ,AN,AH,BC,BF,BJ,BG,BH,BI,BE,A6,A7,A1,A4,A5,AZ]
  simp only [AY]
  refine AX (AV (fun hlj=> ?_) fun hgj=> ?_)
  ·have hlj:j<(BN os k).length:=by omega
   obtain ⟨x,hx⟩: ∃x,(gI (BN os k) j).toNat=x:=⟨_,rfl⟩
   obtain ⟨x1,x2,x3,_⟩:=CY (DT hlj)
   rw [hx] at x2 x3
   have xc:x<cs2.length:=by omega
   have xl:x<col2.length:=by omega
   refine BP (AT hlj (ldI hlj (AT hlj (ldI hlj ?_))))
   rw [x3]
   refine AT xc (ldI xc (GA (AT xc (XH xc (AT hlj (ldI hlj ?_))))))
   rw [x3]
   refine AT xl (ldI xl (B8 (AV (fun hne=> ?_) fun heq=> ?_)))
   ·refine AT hlj (ldI hlj ?_)
    rw [x3]
    refine AT xl (XH (v:=0) xl (AT hlj (ldI hlj ?_)))
    rw [x3]
    have wn:=wj2.new hlj x3 hne
    have:=KW (a:=col2) (b:=col2.set x 0) (c:=0) x2 hne (by rw [D7 xl];simp) fun y _ hy=>by rw [D7 xl];split <;> first | rfl | exact hy
    refine EM rfl (by omega) (BA (by omega) ?_)
    have:=hR2 (j+1,todo2++[(x:Int)],0,todo2++[(x:Int)],_,_) ⟨by simp only;omega,Vw.new _,wn,by simp only [List.length_append,List.length_singleton];omega⟩ (by simp only;omega)
    simp only [Nat.mul_one,OU,vw2.vw]
    have ea:tI todo2++[T.c (I (x:Int))]=tI (todo2++[(x:Int)]):=EG _ _
    rw [ea]
    simp only [AG,AM,AK,AP,AI,AD,AE,AR,AQ,AO,AL,AJ,AN,AH,BC,BF,BJ,BG,BH,BI,BE,A6,A7,A1,A4,A5,AZ]
    simp only [AY]
    exact this
   ·have heq:gI col2 x=0:=Decidable.not_not.1 heq
    have wo:=wj2.old hlj x3 heq
    refine BA (by omega) ?_
    have:=hR2 (j+1,row2,off2,todo2,_,_) ⟨by simp only;omega,vw2,wo,hms⟩ (by simp only;omega)
    simp only [AG,AM,AK,AP,AI,AD,AE,AR,AQ,AO,AL,AJ,AN,AH,BC,BF,BJ,BG,BH,BI,BE,A6,A7,A1,A4,A5,AZ]
    simp only [AY]
    exact this
  ·have:j=(BN os k).length:=by omega
   subst this
   have:=hR (row2,off2,todo2,cs2,col2) ⟨vw2,wj2.stop⟩ hms
   exact this
 ·have:todo=[]:=List.length_eq_zero_iff.1 (by omega)
  subst this
  exact h _ _ wk.stop
theorem TT {os:List AU} {b c' d:List T} {cs col:List Int} {id:Int} {K:J2} (hol:os.length=8) (hof: ∀o∈os,OF o) (h1:cs.length=8) (h2:col.length=8) (hf: ∀i,i<8→F64 (gI cs i)) (hno:AB os id<0→K [] [tI cs,tI col]) (h: ∀s:Nat,AB os id=s→s<8→ ∀cs' col',JJ os 1 (-1) cs col cs' col' s→K [] [tI cs',tI col']):cl2 ⟨Try.prog,w0⟩ 156 EU.sg [I (AB os id)] [tR tO os,b,c',d,tI cs,tI col] K:=by
 refine EU.cl2 ?_
 unfold EU.txt
 refine QJ (by omega) (by omega) (TJ hol h1 h2 (fun hs=> ?_) fun hs=> ?_)
 ·replace hno:=hno hs
  repeat' (first | refine BO ?_ | refine QP ?_ | refine V3 rfl ?_ | refine BX ?_ | refine B1 ?_ | simp only [AG,AM,AK,AP,AI,AD,AE,AR,AQ,AO,AL,AJ,AN,AH,BC,BF,BJ,BG,BH,BI,BE,A6,A7,A1,A4,A5,AZ])
  all_goals exact hno
 have hk:=BL hs
 obtain ⟨s,hss⟩: ∃s,(AB os id).toNat=s:=⟨_,rfl⟩
 have hsI:AB os id=(s:Int):=by omega
 have hs:s<8:=hss ▸ hk.2.2.2.1
 replace h:=h s hsI hs
 clear hno
 rw [hsI]
 refine B1 ?_
 have hsl:s<col.length:=by omega
 simp only [AG,AM,AK,AP,AI,AD,AE,AR,AQ,AO,AL,AJ,AN,AH,BC,BF,BJ,BG,BH,BI,BE,A6,A7,A1,A4,A5,AZ]
 refine BO (BO (BO (NB (AT hsl ?_))))
 refine NB (ldI hsl (NB (BM (TU rfl ?_))))
 refine AV (fun he=>h _ _ (JJ.refl h1 h2 hf he)) fun h0=> ?_
 refine AT (by omega) (XH (v:=1) (by omega) ?_)
 refine FD (α:=List Int×Nat×List Int×List Int×List Int) (fun q=>[iv q.2.2.1.length,iv q.2.1]) (fun q=>[tI q.1,tI q.2.2.2.1,tI q.2.2.2.2]) (fun q=>q.2.2.1.length+2*JA q.2.2.2.2 1) (fun q=>Vw q.1 q.2.1 q.2.2.1∧ON os 1 (-1) cs col s q.2.2.1 q.2.2.2.1 q.2.2.2.2) ([(s:Int)],0,[(s:Int)],cs,col.set s 1) rfl rfl ⟨Vw.new _,ON.start hs h1 h2 hf h0⟩ (fun R q hq hR=> ?_)
 obtain ⟨row,off,todo,cs1,col1⟩:=q
 obtain ⟨vw,wk⟩:=hq
 simp only at vw wk
 have hsz:=wk.sz
 have hbd:=vw.bd
 simp only [AG,AM,AK,AP,AI,AD,AE,AR,AQ,AO,AL,AJ,AN,AH,BC,BF,BJ,BG,BH,BI,BE,A6,A7,A1,A4,A5,AZ]
 simp only [AY]
 refine IF (AV (fun hlt=> ?_) fun hge=> ?_)
 ·have hlt:todo.length>0:=by omega
  obtain ⟨k,hk⟩: ∃k,(gI todo (todo.length-1)).toNat=k:=⟨_,rfl⟩
  obtain ⟨e1,k8,wj⟩:=wk.pop hlt hk
  have ev:((todo.length:Int)-1)=((todo.length-1:Nat):Int):=by omega
  refine H2 ⟨by omega,by omega⟩ ?_
  rw [ev]
  refine AT (by omega) ?_
  have eg:=vw.get (j:=todo.length-1) (by omega)
  have el:ldc (tI row) [] (off+AA (iv (todo.length-1))*1)=ldc (tI row) [] (AA (iv (off+(todo.length-1)))*1):=by rw [AY,AY];congr 1;omega
  rw [el]
  refine ldI (by omega) ?_
  rw [eg,e1]
  refine H2 ⟨by omega,by omega⟩ ?_
  rw [ev]
  refine UU (by omega) (MR hol hof k8 ?_)
  have hkl:=MV hof (k:=k) (by omega)
  refine FD (α:=Nat×List Int×Nat×List Int×List Int×List Int) (fun q=>[iv q.2.2.2.1.length,iv q.2.2.1,iv q.1]) (fun q=>[tI q.2.1,tI (BN os k),tI q.2.2.2.2.1,tI q.2.2.2.2.2]) (fun q=>(BN os k).length-q.1) (fun q=>q.1≤(BN os k).length∧Vw q.2.1 q.2.2.1 q.2.2.2.1∧O5 os 1 (-1) cs col s k q.1 q.2.2.2.1 q.2.2.2.2.1 q.2.2.2.2.2∧q.2.2.2.1.length+2*JA q.2.2.2.2.2 1<todo.length+2*JA col1 1) (0,row,off,todo.dropLast,cs1,col1) ?_ rfl ⟨Nat.zero_le _,vw.pop,wj,by simp only [List.length_dropLast];omega⟩ (fun R2 q hq hR2=> ?_)
  ·simp only [List.length_dropLast,AY,Nat.zero_mul,Nat.add_zero];rfl
  obtain ⟨j,row2,off2,todo2,cs2,col2⟩:=q
  obtain ⟨hj,vw2,wj2,hms⟩:=hq
  simp only at hj vw2 wj2 hms
  have hsz2:=wj2.sz
  have hbd2:=vw2.bd
  have hl2:=wj2.len
  simp only [AG,AM,AK,AP,AI,AD,AE,AR,AQ,AO,AL,AJ,AN,AH,BC,BF,BJ,BG,BH,BI,BE,A6,A7,A1,A4,A5,AZ]
  simp only [AY]
  refine AX (AV (fun hlj=> ?_) fun hgj=> ?_)
  ·have hlj:j<(BN os k).length:=by omega
   obtain ⟨x,hx⟩: ∃x,(gI (BN os k) j).toNat=x:=⟨_,rfl⟩
   obtain ⟨x1,x2,x3,_⟩:=CY (DT hlj)
   rw [hx] at x2 x3
   have xc:x<cs2.length:=by omega
   have xl:x<col2.length:=by omega
   refine BP (AT hlj (ldI hlj (AT hlj (ldI hlj ?_))))
   rw [x3]
   refine AT xc (ldI xc (V5 (AT xc (XH xc (AT hlj (ldI hlj ?_))))))
   rw [x3]
   refine AT xl (ldI xl (B8 (AV (fun hne=> ?_) fun heq=> ?_)))
   ·refine AT hlj (ldI hlj ?_)
    rw [x3]
    refine AT xl (XH (v:=1) xl (AT hlj (ldI hlj ?_)))
    rw [x3]
    have wn:=wj2.new hlj x3 hne
    have:=KW (a:=col2) (b:=col2.set x 1) (c:=1) x2 hne (by rw [D7 xl];simp) fun y _ hy=>by rw [D7 xl];split <;> first | rfl | exact hy
    refine EM rfl (by omega) (BA (by omega) ?_)
    have:=hR2 (j+1,todo2++[(x:Int)],0,todo2++[(x:Int)],_,_) ⟨by simp only;omega,Vw.new _,wn,by simp only [List.length_append,List.length_singleton];omega⟩ (by simp only;omega)
    simp only [Nat.mul_one,OU,vw2.vw]
    have ea:tI todo2++[T.c (I (x:Int))]=tI (todo2++[(x:Int)]):=EG _ _
    rw [ea]
    simp only [AG,AM,AK,AP,AI,AD,AE,AR,AQ,AO,AL,AJ,AN,AH,BC,BF,BJ,BG,BH,BI,BE,A6,A7,A1,A4,A5,AZ]
    simp only [AY]
    exact this
   ·have heq:gI col2 x=1:=Decidable.not_not.1 heq
    have wo:=wj2.old hlj x3 heq
    refine BA (by omega) ?_
    have:=hR2 (j+1,row2,off2,todo2,_,_) ⟨by simp only;omega,vw2,wo,hms⟩ (by simp only;omega)
    simp only [AG,AM,AK,AP,AI,AD,AE,AR,AQ,AO,AL,AJ,AN,AH,BC,BF,BJ,BG,BH,BI,BE,A6,A7,A1,A4,A5,AZ]
    simp only [AY]
    exact this
  ·have:j=(BN os k).length:=by omega
   subst this
   have:=hR (row2,off2,todo2,cs2,col2) ⟨vw2,wj2.stop⟩ hms
   exact this
 ·have:todo=[]:=List.length_eq_zero_iff.1 (by omega)
  subst this
  exact h _ _ wk.stop
end Go.Proofs.Ytklmcfpgdfibnaa.P
