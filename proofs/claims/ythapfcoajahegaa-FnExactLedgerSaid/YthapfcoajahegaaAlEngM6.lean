/- A part of the proof. -/
import Derived.Test.YthapfcoajahegaaAlEngM5
import Derived.Test.YthapfcoajahegaaAlEngM2
namespace Go.Proofs.Ythapfcoajahegaa.Eng
open Go Go.RowKit
set_option linter.unusedVariables false
set_option linter.unusedSimpArgs false
abbrev I (n:Int):Value:= .int .i64 n
theorem bG (n:Nat):iv n=I (Int.ofNat n):=rfl
def F64 (n:Int):Prop:= -2^63≤n∧n<2^63
theorem RG {n:Int} (h:F64 n):IntKind.i64.wrap n=n:=by
 obtain ⟨h1,h2⟩:=h
 rw [IntKind.wrap_i64];omega
theorem BO {v:Value} {K:Value→Prop} (hp:plain v=true) (h:K v):prP (some v) K:=⟨v,rfl,hp,h⟩
theorem CN {a b:Int} {K:Value→Prop} (hf:F64 (a+b)) (h:K (I (a+b))):prP (bnI .add (I a) (I b)) K:=BO (v:= .int .i64 (IntKind.i64.wrap (a+b))) rfl (by rw [RG hf];exact h)
theorem DE {a b:Int} {K:Value→Prop} (hf:F64 (a-b)) (h:K (I (a-b))):prP (bnI .sub (I a) (I b)) K:=BO (v:= .int .i64 (IntKind.i64.wrap (a-b))) rfl (by rw [RG hf];exact h)
theorem AN {a b:Int} {K:Value→Prop} (h:K (.bool (decide (a<b)))):prP (bnI .lss (I a) (I b)) K:=BO rfl h
theorem DM {a b:Int} {K:Value→Prop} (h:K (.bool (decide (a≤b)))):prP (bnI .leq (I a) (I b)) K:=BO rfl h
theorem DK {a b:Int} {K:Value→Prop} (h:K (.bool (decide (a>b)))):prP (bnI .gtr (I a) (I b)) K:=BO rfl h
theorem DL {a b:Int} {K:Value→Prop} (h:K (.bool (decide (a≥b)))):prP (bnI .geq (I a) (I b)) K:=BO rfl h
theorem Y1 {a b:Int} {K:Value→Prop} (h:K (.bool (a != b))):prP (bnI .neq (I a) (I b)) K:=BO rfl h
theorem C6 {b:Bool} {K:Value→Prop} (h:K (.bool !b)):prP (un .not (.bool b)) K:=BO rfl h
theorem kZ {a b:ByteArray} {K:Value→Prop} (h:K (.bool (a.toList==b.toList))):prP (bnS .eql (.string a) (.string b)) K:=BO rfl h
theorem lJ {a b:ByteArray} {K:Value→Prop} (h:K (.bool !(a.toList==b.toList))):prP (bnS .neq (.string a) (.string b)) K:=BO rfl h
theorem B3 {a b:ByteArray} {K:Value→Prop} (hs:a.size+b.size<2^63) (h:K (.string (a++b))):prP (bnS .add (.string a) (.string b)) K:=by
 refine ⟨.string (a++b), ?_,rfl,h⟩
 have: ¬((a.size+b.size:Nat):Int)>IntKind.i64.max:=by simp only [IntKind.max];simp only [IntKind.signed,IntKind.bits];simp;omega
 simp only [bnS,if_neg this]
theorem DX {a:ByteArray} {K:Value→Prop} (h:K (I a.size)):prP (lnS (.string a)) K:=BO rfl h
theorem ET {b:Bool} {p q:Prop} (h1:b=true→p) (h2:b=false→q):AH (.bool b) p q:=by
 cases b
 ·exact .inr ⟨rfl,h2 rfl⟩
 ·exact .inl ⟨rfl,h1 rfl⟩
theorem AM {c:Prop} [Decidable c] {p q:Prop} (h1:c→p) (h2: ¬c→q):AH (.bool (decide c)) p q:=
 ET (fun h=>h1 (of_decide_eq_true h)) (fun h=>h2 (of_decide_eq_false h))
theorem oC {a b:Int} {p q:Prop} (h1:a≠b→p) (h2:a=b→q):AH (.bool (a != b)) p q:=
 ET (fun h=>h1 (by simpa using h)) (fun h=>h2 (by simpa using h))
theorem o7 {cs:List T} {off:Nat} {v:Value} {K:Value→Prop} (hc:cs[off]? =some (.c v)) (h:K v):ldc cs [] off K:=⟨v,by simpa [cell,node] using hc,h⟩
def tI (l:List Int):List T:=l.map fun n=> .c (I n)
def tS (l:List ByteArray):List T:=l.map fun n=> .c (.string n)
theorem AQ (l:List Int):cnt 1 (tI l)=l.length:=by simp [cnt,tI]
theorem A9 (l:List ByteArray):cnt 1 (tS l)=l.length:=by simp [cnt,tS]
theorem DI {l:List Int} {i:Nat} {K:Value→Prop} (hi:i<l.length) (h:K (I l[i])):ldc (tI l) [] (AB (iv i)*1) K:=
 o7 (by rw [BF,Nat.mul_one];simp [tI,hi]) h
theorem FQ {l:List ByteArray} {i:Nat} {K:Value→Prop} (hi:i<l.length) (h:K (.string l[i])):ldc (tS l) [] (AB (iv i)*1) K:=
 o7 (by rw [BF,Nat.mul_one];simp [tS,hi]) h
theorem kM {l:List Int} {i:Nat} {v:Int} {K:List T→Prop} (hi:i<l.length) (h:K (tI (l.set i v))):stc (tI l) [] (AB (iv i)*1) (I v) K:=by
 rw [BF,Nat.mul_one]
 refine ⟨⟨I l[i],by simp [cell,node,tI,hi]⟩, ?_⟩
 have:KL (tI l) [] i [.c (I v)]=tI (l.set i v):=by
  simp only [KL,node,GU,KQ,tI,List.length_singleton]
  rw [List.set_eq_take_append_cons_drop,if_pos hi]
  simp [List.map_take,List.map_drop]
 rw [this];exact h
theorem ZR {F:J2→J2} (xs:Nat→List Value) (cs:Nat→List (List T)) (n:Nat) (P:Nat→Prop) (h: ∀(R:J2) i,i≤n→P i→(i<n→P (i+1)→R (xs (i+1)) (cs (i+1)))→F R (xs i) (cs i)) {i:Nat} (hi:i≤n) (hP:P i):AP F (xs i) (cs i):=by
 intro R hR
 obtain ⟨k,hk⟩: ∃k,n=i+k:=⟨n-i,by omega⟩
 induction k generalizing i with
 | zero=>exact hR _ _ (h R i hi hP fun hlt=>by omega)
 | succ k ih=>exact hR _ _ (h R i hi hP fun hlt hp=>ih hlt hp (by omega))
theorem BZ {F:J2→J2} {xs0:List Value} {cs0:List (List T)} (xs:Nat→List Value) (cs:Nat→List (List T)) (n:Nat) (P:Nat→Prop) (hx:xs0=xs 0) (hc:cs0=cs 0) (hP:P 0) (h: ∀(R:J2) i,i≤n→P i→(i<n→P (i+1)→R (xs (i+1)) (cs (i+1)))→F R (xs i) (cs i)):AP F xs0 cs0:=by
 subst hx;subst hc;exact ZR xs cs n P h (Nat.zero_le _) hP
theorem AO {n j:Nat} {K:Value→Prop} (hj:j<n) (h:K (iv j)):ixW n (iv j) K:=⟨.i64,j,rfl,hj,h⟩
theorem AT {j:Nat} {K:Value→Prop} (hf:(j:Int)+1<2^63) (h:K (iv (j+1))):prP (bnI .add (iv j) (I 1)) K:=CN (a:=Int.ofNat j) ⟨by have:=Int.natCast_nonneg j;simp only [Int.ofNat_eq_natCast] at*;omega,by simpa using hf⟩ h
theorem W6 {a b:Nat} {K:Value→Prop} (h:K (.bool (decide (a<b)))):prP (bnI .lss (iv a) (iv b)) K:=AN (a:=Int.ofNat a) (b:=Int.ofNat b) (by
 have:decide (Int.ofNat a<Int.ofNat b)=decide (a<b):=by simp
 rw [this];exact h)
theorem n3 {a b:Nat} {K:Value→Prop} (h:K (.bool (a != b))):prP (bnI .neq (iv a) (iv b)) K:=Y1 (a:=Int.ofNat a) (b:=Int.ofNat b) (by
 have:(Int.ofNat a != Int.ofNat b)=(a != b):=by rw [Bool.eq_iff_iff];simp;omega
 rw [this];exact h)
theorem jX {a b:Nat} {p q:Prop} (h1:a≠b→p) (h2:a=b→q):AH (.bool (a != b)) p q:=
 ET (fun h=>h1 (by simpa using h)) (fun h=>h2 (by simpa using h))
end Go.Proofs.Ythapfcoajahegaa.Eng
namespace Go.Proofs.Ythapfcoajahegaa.Eng
open Go Go.RowKit
set_option linter.unusedVariables false
set_option linter.unusedSimpArgs false
def w64 (n:Int):Int:=IntKind.i64.wrap n
theorem ON {n:Int} (h:F64 n):w64 n=n:=RG h
theorem CQ {a b:Int} {K:Value→Prop} (h:K (I (w64 (a+b)))):prP (bnI .add (I a) (I b)) K:=BO rfl h
theorem CP {a b:Int} {K:Value→Prop} (h:K (I (w64 (a-b)))):prP (bnI .sub (I a) (I b)) K:=BO rfl h
theorem AU {a b:Int} {K:Value→Prop} (h:K (.bool (decide (a=b)))):prP (bnI .eql (I a) (I b)) K:=BO rfl h
theorem CG {a b:Int} {K:Value→Prop} (h:K (.bool (decide (a≠b)))):prP (bnI .neq (I a) (I b)) K:=by
 refine Y1 ?_
 have:(a != b)=decide (a≠b):=by rw [Bool.eq_iff_iff];simp
 rw [this];exact h
theorem D6 {a b:Int} {K:Value→Prop} (ha:0≤a) (hb:0<b) (h:K (I (a % b))):prP (bnI .rem (I a) (I b)) K:=by
 refine ⟨.int .i64 (a.tmod b), ?_,rfl, ?_⟩
 ·simp [bnI];omega
 ·rw [Int.tmod_eq_emod_of_nonneg ha];exact h
theorem D7 {a b:Int} {K:Value→Prop} (ha:0≤a) (hf:F64 a) (hb:0<b) (h:K (I (a/b))):prP (bnI .quo (I a) (I b)) K:=by
 have hd:a.tdiv b=a/b:=Int.tdiv_eq_ediv_of_nonneg ha
 have h1:0≤a/b:=Int.ediv_nonneg ha (by omega)
 have h2:a/b≤a:=Int.ediv_le_self _ ha
 refine ⟨.int .i64 (IntKind.i64.wrap (a.tdiv b)), ?_,rfl, ?_⟩
 ·simp [bnI];omega
 ·rw [hd,RG ⟨by omega,by have:=hf.2;omega⟩];exact h
theorem CV {c:Prop} [Decidable c] {K:Value→Prop} (h:K (.bool (decide ¬c))):prP (un .not (.bool (decide c))) K:=by
 refine C6 ?_
 have:(!decide c)=decide ¬c:=by simp
 rw [this];exact h
theorem BX {c:Prop} [Decidable c] {K:Value→Prop} (h:K (.bool (decide c))):prP (un .not (.bool (decide ¬c))) K:=by
 refine C6 ?_
 have:(!decide ¬c)=decide c:=by simp
 rw [this];exact h
theorem jP {a b:ByteArray} (h:a.toList=b.toList):a=b:=by
 rw [ByteArray.toList_eq,ByteArray.toList_eq] at h
 exact ByteArray.ext (Array.ext' h)
theorem B7 {a b:ByteArray} {K:Value→Prop} (h:K (.bool (decide (a=b)))):prP (bnS .eql (.string a) (.string b)) K:=by
 refine kZ ?_
 have:(a.toList==b.toList)=decide (a=b):=by
  rw [Bool.eq_iff_iff,beq_iff_eq,decide_eq_true_eq];exact ⟨jP,fun h=>by rw [h]⟩
 rw [this];exact h
theorem CU {a b:ByteArray} {K:Value→Prop} (h:K (.bool (decide (a≠b)))):prP (bnS .neq (.string a) (.string b)) K:=by
 refine lJ ?_
 have:(!(a.toList==b.toList))=decide (a≠b):=by
  rw [Bool.eq_iff_iff,Bool.not_eq_true',beq_eq_false_iff_ne,decide_eq_true_eq]
  exact ⟨fun h1 h2=>h1 (by rw [h2]),fun h1 h2=>h1 (jP h2)⟩
 rw [this];exact h
theorem D9 {a b:Bool} {K:Value→Prop} (h:K (.bool (decide (a=b)))):prP (bnB .eql (.bool a) (.bool b)) K:=BO (v:= .bool (a==b)) rfl (by
 have:(a==b)=decide (a=b):=by cases a <;> cases b <;> rfl
 rw [this];exact h)
theorem DR {a b:Bool} {K:Value→Prop} (h:K (.bool (decide (a≠b)))):prP (bnB .neq (.bool a) (.bool b)) K:=BO (v:= .bool !(a==b)) rfl (by
 have:(!(a==b))=decide (a≠b):=by cases a <;> cases b <;> rfl
 rw [this];exact h)
theorem DN {b:Bool} {p q:Prop} (hb:b=true) (h:p):AH (.bool b) p q:= .inl ⟨by rw [hb],h⟩
theorem CJ {b:Bool} {p q:Prop} (hb:b=false) (h:q):AH (.bool b) p q:= .inr ⟨by rw [hb],h⟩
theorem B4 {c:Prop} [Decidable c] {p q:Prop} (hc:c) (h:p):AH (.bool (decide c)) p q:=DN (decide_eq_true hc) h
theorem BL {c:Prop} [Decidable c] {p q:Prop} (hc: ¬c) (h:q):AH (.bool (decide c)) p q:=CJ (decide_eq_false hc) h
theorem CH {b:Bool} {q:Prop} (h:q):gE (.bool b) q:=⟨rfl,h⟩
theorem LZ {q:Prop} (h:q):gE undef q:=⟨rfl,h⟩
theorem GX {w a:Bool} {m:(Value→Prop)→Prop} {K:Value→Prop} (ha:a=w) (h:m K):gP (.bool a) w m K:= .inl ⟨by rw [ha],h⟩
theorem OJ {w a:Bool} {m:(Value→Prop)→Prop} {K:Value→Prop} (ha:a= !w) (h:K undef):gP (.bool a) w m K:= .inr ⟨.inl (by rw [ha]),h⟩
theorem EB {a:Bool} {m:(Value→Prop)→Prop} {K:Value→Prop} (ha:a=false) (h:K undef):gP (.bool a) true m K:=OJ ha h
theorem DS {a:Bool} {m:(Value→Prop)→Prop} {K:Value→Prop} (ha:a=true) (h:K undef):gP (.bool a) false m K:=OJ ha h
theorem EY {m:(Value→Prop)→Prop} {K:Value→Prop} (h:m K):gP (.bool true) true m K:=GX rfl h
theorem IL {m:(Value→Prop)→Prop} {K:Value→Prop} (h:m K):gP (.bool false) false m K:=GX rfl h
theorem IE {m:(Value→Prop)→Prop} {K:Value→Prop} (h:K undef):gP (.bool true) false m K:=OJ rfl h
theorem EE {m:(Value→Prop)→Prop} {K:Value→Prop} (h:K undef):gP (.bool false) true m K:=OJ rfl h
theorem KK {w:Bool} {m:(Value→Prop)→Prop} {K:Value→Prop} (h:K undef):gP undef w m K:= .inr ⟨.inr rfl,h⟩
theorem H9 {a:Bool} {m:(Value→Prop)→Prop} {K:Value→Prop} (h1:a=true→m K) (h2:a=false→K undef):gP (.bool a) true m K:=by
 cases a
 ·exact OJ rfl (h2 rfl)
 ·exact GX rfl (h1 rfl)
theorem H6 {a:Bool} {m:(Value→Prop)→Prop} {K:Value→Prop} (h1:a=false→m K) (h2:a=true→K undef):gP (.bool a) false m K:=by
 cases a
 ·exact GX rfl (h1 rfl)
 ·exact OJ rfl (h2 rfl)
theorem IK {c:Prop} [Decidable c] {m:(Value→Prop)→Prop} {K:Value→Prop} (h1:c→m K) (h2: ¬c→K undef):gP (.bool (decide c)) true m K:=
 H9 (fun h=>h1 (of_decide_eq_true h)) fun h=>h2 (of_decide_eq_false h)
theorem IN {c:Prop} [Decidable c] {m:(Value→Prop)→Prop} {K:Value→Prop} (h1: ¬c→m K) (h2:c→K undef):gP (.bool (decide c)) false m K:=
 H6 (fun h=>h1 (of_decide_eq_false h)) fun h=>h2 (of_decide_eq_true h)
theorem IM {c:Prop} [Decidable c] {m:(Value→Prop)→Prop} {K:Value→Prop} (hc:c) (h:m K):gP (.bool (decide c)) true m K:=GX (decide_eq_true hc) h
theorem IJ {c:Prop} [Decidable c] {m:(Value→Prop)→Prop} {K:Value→Prop} (hc: ¬c) (h:K undef):gP (.bool (decide c)) true m K:=OJ (decide_eq_false hc) h
theorem IV {c:Prop} [Decidable c] {m:(Value→Prop)→Prop} {K:Value→Prop} (hc:c) (h:K undef):gP (.bool (decide c)) false m K:=OJ (decide_eq_true hc) h
theorem IG {c:Prop} [Decidable c] {m:(Value→Prop)→Prop} {K:Value→Prop} (hc: ¬c) (h:m K):gP (.bool (decide c)) false m K:=GX (decide_eq_false hc) h
theorem LH {c:Prop} [Decidable c] {a b:Value} {K:Value→Prop} (hc:c) (hp:plain a=true) (h:K a):prP (pk (.bool (decide c)) a b) K:=by rw [decide_eq_true hc];exact BO hp h
theorem LK {c:Prop} [Decidable c] {a b:Value} {K:Value→Prop} (hc: ¬c) (hp:plain b=true) (h:K b):prP (pk (.bool (decide c)) a b) K:=by rw [decide_eq_false hc];exact BO hp h
theorem LL {x:Bool} {a b:Value} {K:Value→Prop} (hc:x=true) (hp:plain a=true) (h:K a):prP (pk (.bool x) a b) K:=by rw [hc];exact BO hp h
theorem LJ {x:Bool} {a b:Value} {K:Value→Prop} (hc:x=false) (hp:plain b=true) (h:K b):prP (pk (.bool x) a b) K:=by rw [hc];exact BO hp h
theorem IT {c:Prop} [Decidable c] {a b:Value} {K:Value→Prop} (hp:plain a=true) (hq:plain b=true) (h1:c→K a) (h2: ¬c→K b):prP (pk (.bool (decide c)) a b) K:=by
 by_cases h:c
 ·exact LH h hp (h1 h)
 ·exact LK h hq (h2 h)
theorem II {c:Bool} {a b:Value} {K:Value→Prop} (hp:plain a=true) (hq:plain b=true) (h1:c=true→K a) (h2:c=false→K b):prP (pk (.bool c) a b) K:=by
 cases h:c
 ·exact LJ rfl hq (h2 h)
 ·exact LL rfl hp (h1 h)
theorem pO {c:Prop} [Decidable c] {v:Value} (hc:c):BW (.bool (decide c)) true v=v:=by rw [decide_eq_true hc];rfl
theorem pV {c:Prop} [Decidable c] {v:Value} (hc: ¬c):BW (.bool (decide c)) false v=v:=by rw [decide_eq_false hc];rfl
theorem nE {c:Prop} [Decidable c] {v:Value} (hc:c):BW (.bool (decide c)) false v=undef:=by rw [decide_eq_true hc];rfl
theorem oL {c:Prop} [Decidable c] {v:Value} (hc: ¬c):BW (.bool (decide c)) true v=undef:=by rw [decide_eq_false hc];rfl
theorem pJ {a:Bool} {v:Value} (h:a=true):BW (.bool a) true v=v:=by rw [h];rfl
theorem oD {a:Bool} {v:Value} (h:a=true):BW (.bool a) false v=undef:=by rw [h];rfl
theorem qD {a:Bool} {v:Value} (h:a=false):BW (.bool a) false v=v:=by rw [h];rfl
theorem n8 {a:Bool} {v:Value} (h:a=false):BW (.bool a) true v=undef:=by rw [h];rfl
theorem IF {g b:Bool} {w:Bool} {q:Prop} (h:q):gE (BW (.bool g) w (.bool b)) q:=by cases g <;> cases w <;> exact ⟨rfl,h⟩
theorem IU {g:Bool} {w:Bool} {q:Prop} (h:q):gE (BW (.bool g) w undef) q:=by cases g <;> cases w <;> exact ⟨rfl,h⟩
theorem IS {w:Bool} {v:Value} {q:Prop} (h:q):gE (BW undef w v) q:=by cases w <;> exact ⟨rfl,h⟩
theorem H5 {c:Prop} [Decidable c] {w:Bool} {v:Value} {m:(Value→Prop)→Prop} {K:Value→Prop} (hc:c) (h:gP v w m K):gP (BW (.bool (decide c)) true v) w m K:=by rw [pO hc];exact h
theorem H7 {c:Prop} [Decidable c] {w:Bool} {v:Value} {m:(Value→Prop)→Prop} {K:Value→Prop} (hc: ¬c) (h:K undef):gP (BW (.bool (decide c)) true v) w m K:=by rw [oL hc];exact KK h
theorem FT {c:Prop} [Decidable c] {w:Bool} {v:Value} {m:(Value→Prop)→Prop} {K:Value→Prop} (hc: ¬c) (h:gP v w m K):gP (BW (.bool (decide c)) false v) w m K:=by rw [pV hc];exact h
theorem FM {c:Prop} [Decidable c] {w:Bool} {v:Value} {m:(Value→Prop)→Prop} {K:Value→Prop} (hc:c) (h:K undef):gP (BW (.bool (decide c)) false v) w m K:=by rw [nE hc];exact KK h
theorem H8 {c:Bool} {w:Bool} {v:Value} {m:(Value→Prop)→Prop} {K:Value→Prop} (hc:c=true) (h:gP v w m K):gP (BW (.bool c) true v) w m K:=by rw [pJ hc];exact h
theorem H4 {c:Bool} {w:Bool} {v:Value} {m:(Value→Prop)→Prop} {K:Value→Prop} (hc:c=false) (h:K undef):gP (BW (.bool c) true v) w m K:=by rw [n8 hc];exact KK h
theorem FP {c:Bool} {w:Bool} {v:Value} {m:(Value→Prop)→Prop} {K:Value→Prop} (hc:c=false) (h:gP v w m K):gP (BW (.bool c) false v) w m K:=by rw [qD hc];exact h
theorem FU {c:Bool} {w:Bool} {v:Value} {m:(Value→Prop)→Prop} {K:Value→Prop} (hc:c=true) (h:K undef):gP (BW (.bool c) false v) w m K:=by rw [oD hc];exact KK h
theorem GD {c:Prop} [Decidable c] {w:Bool} {v:Value} {m:(Value→Prop)→Prop} {K:Value→Prop} (h1: ¬c→gP v w m K) (h2:c→K undef):gP (BW (.bool (decide c)) false v) w m K:=by
 by_cases hc:c
 ·exact FM hc (h2 hc)
 ·exact FT hc (h1 hc)
theorem GG {c:Prop} [Decidable c] {w:Bool} {v:Value} {m:(Value→Prop)→Prop} {K:Value→Prop} (h1:c→gP v w m K) (h2: ¬c→K undef):gP (BW (.bool (decide c)) true v) w m K:=by
 by_cases hc:c
 ·exact H5 hc (h1 hc)
 ·exact H7 hc (h2 hc)
theorem GB {w:Bool} {v:Value} {m:(Value→Prop)→Prop} {K:Value→Prop} (h:K undef):gP (BW (.bool true) false v) w m K:=FU rfl h
theorem GL {w:Bool} {v:Value} {m:(Value→Prop)→Prop} {K:Value→Prop} (h:gP v w m K):gP (BW (.bool false) false v) w m K:=FP rfl h
theorem GI {w:Bool} {v:Value} {m:(Value→Prop)→Prop} {K:Value→Prop} (h:gP v w m K):gP (BW (.bool true) true v) w m K:=H8 rfl h
theorem GN {w:Bool} {v:Value} {m:(Value→Prop)→Prop} {K:Value→Prop} (h:K undef):gP (BW (.bool false) true v) w m K:=H4 rfl h
theorem EO {p q:Prop} (h:p):AH (.bool true) p q:= .inl ⟨rfl,h⟩
theorem CT {p q:Prop} (h:q):AH (.bool false) p q:= .inr ⟨rfl,h⟩
theorem JM {a b:Value} {K:Value→Prop} (hp:plain a=true) (h:K a):prP (pk (.bool true) a b) K:=BO hp h
theorem JL {a b:Value} {K:Value→Prop} (hp:plain b=true) (h:K b):prP (pk (.bool false) a b) K:=BO hp h
theorem EK {a:Value} {l:List Value}:nx (a::l) 0=a:=rfl
theorem EP {a b:Value} {l:List Value}:nx (a::b::l) 1=b:=rfl
theorem FI {a b c:Value} {l:List Value}:nx (a::b::c::l) 2=c:=rfl
theorem FK {a b c d:Value} {l:List Value}:nx (a::b::c::d::l) 3=d:=rfl
theorem FJ {a b c d e:Value} {l:List Value}:nx (a::b::c::d::e::l) 4=e:=rfl
theorem FH {a b c d e f:Value} {l:List Value}:nx (a::b::c::d::e::f::l) 5=f:=rfl
theorem FG {a b c d e f g:Value} {l:List Value}:nx (a::b::c::d::e::f::g::l) 6=g:=rfl
theorem B2 {a:List T} {l:List (List T)}:nxc (a::l) 0=a:=rfl
theorem CB {a b:List T} {l:List (List T)}:nxc (a::b::l) 1=b:=rfl
theorem CE {a b c:List T} {l:List (List T)}:nxc (a::b::c::l) 2=c:=rfl
theorem CC {a b c d:List T} {l:List (List T)}:nxc (a::b::c::d::l) 3=d:=rfl
theorem CA {a b c d e:List T} {l:List (List T)}:nxc (a::b::c::d::e::l) 4=e:=rfl
theorem B9 {a b c d e f:List T} {l:List (List T)}:nxc (a::b::c::d::e::f::l) 5=f:=rfl
theorem A7 {a:T}:cnt 1 [a]=1:=rfl
theorem AZ:cnt 1 []=0:=rfl
theorem A8 {a b:T}:cnt 2 [a,b]=1:=by simp [cnt]
theorem A5 {a b c:T}:cnt 3 [a,b,c]=1:=by simp [cnt]
theorem BD {a b c d e:T}:cnt 5 [a,b,c,d,e]=1:=by simp [cnt]
theorem A6 {a b c d e f:T}:cnt 6 [a,b,c,d,e,f]=1:=by simp [cnt]
theorem jR {a b c d e f g:T}:cnt 7 [a,b,c,d,e,f,g]=1:=by simp [cnt]
theorem BB {a b c d e f g h:T}:cnt 8 [a,b,c,d,e,f,g,h]=1:=by simp [cnt]
theorem HN {c:List T} {n m b:Nat} {q:Prop} (hf:flat c=true) (hn:(n+m)*b≤2^47) (h:q):apW c true n m b q:=⟨fun _=>hf,hn,h⟩
theorem IH {c:List T} {n m b:Nat} {q:Prop} (hn:(n+m)*b≤2^47) (h:q):apW c false n m b q:=⟨fun hx=>(by cases hx),hn,h⟩
theorem EA (l:List Int):flat (tI l)=true:=by simp [flat,tI,isC]
theorem DT (l:List ByteArray):flat (tS l)=true:=by simp [flat,tS,isC]
theorem IW {n:Nat} {a:Int} {K:Value→Prop} (h0:0≤a) (h1:a<n) (h:K (iv a.toNat)):ixW n (I a) K:=
 ⟨.i64,a.toNat,by rw [Int.ofNat_eq_natCast,Int.toNat_of_nonneg h0],by omega,h⟩
theorem S4 {f:J2} {g:J2→Prop} (h:g f):AX f g:=h
theorem Q2 {α:Type} {F:J2→J2} {xs0:List Value} {cs0:List (List T)} (xs:α→List Value) (cs:α→List (List T)) (μ:α→Nat) (P:α→Prop) (a:α) (hx:xs0=xs a) (hc:cs0=cs a) (hP:P a)
  (h: ∀(R:J2) a,P a→(∀b,P b→μ b<μ a→R (xs b) (cs b))→F R (xs a) (cs a)):AP F xs0 cs0:=by
 subst hx;subst hc
 intro R hR
 have: ∀k a,μ a<k→P a→R (xs a) (cs a):=by
  intro k
  induction k with
  | zero=>intro a hk _;omega
  | succ k ih=>intro a hk hp;exact hR _ _ (h R a hp fun b hb hlt=>ih b (by omega) hb)
 exact this _ a (Nat.lt_succ_self _) hP
def tR {α:Type} (f:α→List T) (l:List α):List T:=l.flatMap f
class Rw {α:Type} (f:α→List T) (e:outParam Nat):Prop where
 pos:1<e
 len: ∀x,(f x).length=e
section
variable {α:Type} {f:α→List T} {e:Nat}
theorem qF:tR f []=[]:=rfl
theorem LS (x:α) (l:List α):tR f (x::l)=f x++tR f l:=rfl
theorem pY (l m:List α):tR f (l++m)=tR f l++tR f m:=by simp [tR]
theorem YJ (l:List α) (x:α):tR f l++f x=tR f (l++[x]):=by simp [tR]
theorem XL [hr:Rw f e] (l:List α):(tR f l).length=l.length*e:=by
 induction l with
 | nil=>simp [tR]
 | cons x l ih=>rw [LS,List.length_append,ih,hr.len,List.length_cons,Nat.add_mul];omega
theorem N4 [hr:Rw f e] (l:List α):cnt e (tR f l)=l.length:=by
 have hp:=hr.pos
 have:cnt e (tR f l)=(tR f l).length/e:=by
  match e,hp with
  | k+2,_=>rfl
 rw [this,XL,Nat.mul_div_cancel _ (by omega)]
theorem OY [hr:Rw f e]: ∀{l:List α} {i:Nat} (hi:i<l.length) {c:Nat},c<e→(tR f l)[i*e+c]? =(f l[i])[c]?
 | x::l,0,hi,c,hc=>by
   rw [LS,Nat.zero_mul,Nat.zero_add,List.getElem?_append_left (by rw [hr.len];exact hc)];rfl
 | x::l,i+1,hi,c,hc=>by
   have h1:i<l.length:=by simpa using hi
   rw [LS,List.getElem?_append_right (by rw [hr.len,Nat.add_mul];omega),hr.len]
   have:(i+1)*e+c-e=i*e+c:=by rw [Nat.add_mul];omega
   rw [this,OY h1 hc];rfl
theorem Y0 [hr:Rw f e]: ∀(l:List α) (i:Nat),(tR f l).drop (i*e)=tR f (l.drop i)
 | l,0=>by simp
 | [],i+1=>by simp [tR]
 | x::l,i+1=>by
   rw [LS,List.drop_succ_cons, ←Y0 l i]
   have:(i+1)*e=(f x).length+i*e:=by rw [Nat.add_mul,hr.len];omega
   rw [this,List.drop_append,List.drop_of_length_le (by omega)]
   simp
theorem S5 [hr:Rw f e]: ∀(l:List α) (i:Nat),(tR f l).take (i*e)=tR f (l.take i)
 | l,0=>by simp [tR]
 | [],i+1=>by simp [tR]
 | x::l,i+1=>by
   rw [LS,List.take_succ_cons,LS, ←S5 l i]
   have:(i+1)*e=(f x).length+i*e:=by rw [Nat.add_mul,hr.len];omega
   rw [this,List.take_append,List.take_of_length_le (by omega)]
   simp
theorem kJ [hr:Rw f e] {l:List α} {i:Nat} (hi:i<l.length):((tR f l).drop (i*e)).take e=f l[i]:=by
 have h1:=S5 (f:=f) (l.drop i) 1
 rw [Nat.one_mul] at h1
 rw [Y0,h1,List.drop_eq_getElem_cons hi,List.take_succ_cons,List.take_zero,LS,qF,List.append_nil]
theorem mG [hr:Rw f e] {l:List α} {i:Nat} (hi:i<l.length) (y:α):KQ (tR f l) (i*e) (f y)=tR f (l.set i y):=by
 have h1:i*e+e=(i+1)*e:=by rw [Nat.add_mul];omega
 rw [KQ,hr.len,h1,S5,Y0,List.set_eq_take_append_cons_drop,if_pos hi,pY,LS]
theorem jN [hr:Rw f e] {l:List α} {i:Nat} (hi:i<l.length) {c:Nat} (hc:c<e) {t:T} {y:α} (hy:f y=(f l[i]).set c t):(tR f l).set (i*e+c) t=tR f (l.set i y):=by
 rw [←mG (f:=f) hi y,hy,KQ,List.length_set,hr.len]
 have h0:tR f l=(tR f l).take (i*e)++(f l[i]++(tR f l).drop (i*e+e)):=by
  rw [←kJ (f:=f) hi, ←List.drop_drop,List.take_append_drop,List.take_append_drop]
 have h1:((tR f l).take (i*e)).length=i*e:=by
  rw [S5,XL,List.length_take];congr 1;omega
 conv=>lhs;rw [h0]
 rw [List.set_append_right _ _ (by rw [h1];omega),h1,Nat.add_sub_cancel_left,List.set_append_left _ _ (by rw [hr.len];exact hc)]
theorem kE {ds:List T} {off:Nat} {t:T} (h:off<ds.length):KQ ds off [t]=ds.set off t:=by
 rw [KQ,List.length_singleton,List.set_eq_take_append_cons_drop,if_pos h];rfl
theorem C1 [hr:Rw f e] {l:List α} {i:Nat} (hi:i<l.length) {c:Nat} {v:Value} {K:Value→Prop} (hc:c<e) (hv:(f l[i])[c]? =some (.c v)) (h:K v):ldc (tR f l) [] (AB (iv i)*e+c) K:=by
 rw [BF];exact ⟨v,by simp only [cell,node,Option.bind_some];rw [OY hi hc];exact hv,h⟩
theorem BV [hr:Rw f e] {l:List α} {i:Nat} (hi:i<l.length) {v:Value} {K:Value→Prop} (hv:(f l[i])[0]? =some (.c v)) (h:K v):ldc (tR f l) [] (AB (iv i)*e) K:=
 C1 hi (c:=0) (by have:=hr.pos;omega) hv h
theorem YD [hr:Rw f e] {l:List α} {i:Nat} (hi:i<l.length) {c e':Nat} {ds:List T} {K:Value→Prop} (hc:c<e) (hv:(f l[i])[c]? =some (.l e' ds)) (h:K (iv 0)):ldl (tR f l) [] (AB (iv i)*e+c) e' K:=by
 rw [BF];exact ⟨⟨ds,by simp only [cell,node,Option.bind_some];rw [OY hi hc];exact hv⟩,h⟩
theorem CI [hr:Rw f e] {l:List α} {i:Nat} (hi:i<l.length) {ks:List CK} {K:List T→Prop} (hn:ks.length=e) (hk:KB ks (f l[i])=true) (h:K (f l[i])):ldg (tR f l) [] (AB (iv i)*e) ks K:=by
 refine ⟨f l[i], ?_,hk,h⟩
 rw [BF,hn];simp only [M5,node];exact kJ hi
theorem dS [hr:Rw f e] {l:List α} {i:Nat} (hi:i<l.length) {c e':Nat} {ds:List T} {pre:List Nat} (hc:c<e) (hv:(f l[i])[c]? =some (.l e' ds)):node (tR f l) ((AB (iv i)*e+c)::pre)=node ds pre:=by
 rw [BF];simp only [node,OY hi hc,hv]
theorem Y6 [hr:Rw f e] {l:List α} {i:Nat} (hi:i<l.length) {c e':Nat} {ds:List T} (hc:c<e) (hv:(f l[i])[c]? =some (.l e' ds)):LM (tR f l) [AB (iv i)*e+c]=ds:=by
 have h:=dS hi hc hv (pre:=[])
 simp only [LM,h];rfl
theorem XN [hr:Rw f e] {l:List α} {i:Nat} (hi:i<l.length) {c e' off:Nat} {ds:List T} {K:Value→Prop} (hc:c<e) (hv:(f l[i])[c]? =some (.l e' ds)) (h:ldc ds [] off K):ldc (tR f l) [AB (iv i)*e+c] off K:=by
 obtain ⟨v,h1,h2⟩:=h
 have h3:=dS hi hc hv (pre:=[])
 refine ⟨v, ?_,h2⟩
 unfold cell at h1 ⊢
 rw [h3];exact h1
theorem mU [hr:Rw f e] {l:List α} {i:Nat} (hi:i<l.length) {c e':Nat} {ds ds':List T} {y:α} (hc:c<e) (hv:(f l[i])[c]? =some (.l e' ds)) (hy:f y=(f l[i]).set c (.l e' ds')):GU (tR f l) [AB (iv i)*e+c] ds'=tR f (l.set i y):=by
 rw [BF]
 simp only [GU,OY hi hc,hv]
 exact jN hi hc hy
theorem cS [hr:Rw f e] {l:List α} {i:Nat} (hi:i<l.length) {c:Nat} {v w:Value} {y:α} {K:List T→Prop} (hc:c<e) (hv:(f l[i])[c]? =some (.c w)) (hy:f y=(f l[i]).set c (.c v)) (h:K (tR f (l.set i y))):stc (tR f l) [] (AB (iv i)*e+c) v K:=by
 rw [BF]
 have hlt:i*e+c<(tR f l).length:=by
  rw [XL]
  have:(i+1)*e≤l.length*e:=Nat.mul_le_mul_right _ hi
  rw [Nat.add_mul] at this;omega
 refine ⟨⟨w,by simp only [cell,node,Option.bind_some];rw [OY hi hc];exact hv⟩, ?_⟩
 have:KL (tR f l) [] (i*e+c) [.c v]=tR f (l.set i y):=by
  simp only [KL,node,GU]
  rw [kE hlt,jN hi hc hy]
 rw [this];exact h
theorem iV [hr:Rw f e] {l:List α} {i:Nat} (hi:i<l.length) {ts:List T} {y:α} {K:List T→Prop} (hy:ts=f y) (h:K (tR f (l.set i y))):stg (tR f l) [] (AB (iv i)*e) ts K:=by
 subst hy
 rw [BF]
 refine ⟨⟨_,rfl, ?_⟩, ?_⟩
 ·rw [hr.len,XL]
  have:(i+1)*e≤l.length*e:=Nat.mul_le_mul_right _ hi
  rw [Nat.add_mul] at this;omega
 ·have:KL (tR f l) [] (i*e) (f y)=tR f (l.set i y):=by
   simp only [KL,node,GU];exact mG hi y
  rw [this];exact h
theorem IX [hr:Rw f e] {cur:List α} {i:Nat} (hi:i<cur.length) {y y':α} {c:Nat} {v w:Value} {K:List T→Prop} (hc:c<e) (hv:(f y)[c]? =some (.c w)) (hy:f y'=(f y).set c (.c v)) (h:K (tR f (cur.set i y'))):stc (tR f (cur.set i y)) [] (AB (iv i)*e+c) v K:=
 cS (l:=cur.set i y) (by simpa using hi) (y:=y') hc (by rw [List.getElem_set_self];exact hv) (by rw [List.getElem_set_self];exact hy) (by rw [List.set_set];exact h)
theorem T3 [hr:Rw f e] {cur:List α} {i:Nat} (hi:i<cur.length) {y y':α} {v w:Value} {K:List T→Prop} (hv:(f y)[0]? =some (.c w)) (hy:f y'=(f y).set 0 (.c v)) (h:K (tR f (cur.set i y'))):stc (tR f (cur.set i y)) [] (AB (iv i)*e) v K:=
 IX hi (c:=0) (by have:=hr.pos;omega) hv hy h
theorem mK [hr:Rw f e] {cur:List α} {i:Nat} (hi:i<cur.length) {y:α} {c e':Nat} {ds:List T} (hc:c<e) (hv:(f y)[c]? =some (.l e' ds)):LM (tR f (cur.set i y)) [AB (iv i)*e+c]=ds:=
 Y6 (l:=cur.set i y) (by simpa using hi) hc (by rw [List.getElem_set_self];exact hv)
theorem nW [hr:Rw f e] {cur:List α} {i:Nat} (hi:i<cur.length) {y:α} {c e':Nat} {ds:List T} {K:Value→Prop} (hc:c<e) (hv:(f y)[c]? =some (.l e' ds)) (h:K (iv 0)):ldl (tR f (cur.set i y)) [] (AB (iv i)*e+c) e' K:=
 YD (l:=cur.set i y) (by simpa using hi) hc (by rw [List.getElem_set_self];exact hv) h
theorem iX [hr:Rw f e] {cur:List α} {i:Nat} (hi:i<cur.length) {y y':α} {c e':Nat} {ds ds':List T} (hc:c<e) (hv:(f y)[c]? =some (.l e' ds)) (hy:f y'=(f y).set c (.l e' ds')):GU (tR f (cur.set i y)) [AB (iv i)*e+c] ds'=tR f (cur.set i y'):=by
 rw [mU (l:=cur.set i y) (by simpa using hi) (y:=y') hc (by rw [List.getElem_set_self];exact hv) (by rw [List.getElem_set_self];exact hy),List.set_set]
theorem YN [hr:Rw f e] {cur:List α} {i:Nat} {y:α}:cnt e (tR f (cur.set i y))=cur.length:=by rw [N4,List.length_set]
theorem XB {cur:List α} {i:Nat} (hi:i<cur.length):tR f cur=tR f (cur.set i cur[i]):=by rw [List.set_getElem_self]
theorem dZ (n:Nat) (x:α):RZ n (f x)=tR f (List.replicate n x):=by
 simp only [RZ,tR]
 induction n with
 | zero=>rfl
 | succ n ih=>rw [List.replicate_succ,List.replicate_succ,List.flatten_cons,List.flatMap_cons,ih]
end
end Go.Proofs.Ythapfcoajahegaa.Eng
namespace Go.Proofs.Ythapfcoajahegaa.Eng
open Go Go.RowKit
set_option linter.unusedVariables false
def Rdt {α:Type} (d:Kind α) (t:α→List T):Prop:=(∀x,(t x).length=d.sz)∧ ∀s x cs,d.E s x cs→ ∃F,TRs s false (t x) cs F
theorem ND:Rdt (pH .i64) fun n=>[.c (.int .i64 n)]:=⟨fun _=>rfl,fun s x cs h=>⟨[],by subst h;simp [TRs,TR,plain]⟩⟩
theorem mV:Rdt qC fun b=>[.c (.string b)]:=⟨fun _=>rfl,fun s x cs h=>⟨[],by subst h;simp [TRs,TR,plain]⟩⟩
theorem MV {α β:Type} {a:Kind α} {b:Kind β} {ta:α→List T} {tb:β→List T} (ha:Rdt a ta) (hb:Rdt b tb):Rdt (RD a b) fun p=>ta p.1++tb p.2:=
 ⟨fun x=>by simp [ha.1,hb.1,RD],fun s x cs ⟨c,d,h,h1,h2⟩=>by
  obtain ⟨F1,g1⟩:=ha.2 s _ _ h1
  obtain ⟨F2,g2⟩:=hb.2 s _ _ h2
  exact ⟨F1++F2,J5.2 ⟨c,d,F1,F2,h,g1,g2,rfl⟩⟩⟩
theorem fS {α:Type} {d:Kind α} {t:α→List T} (hd:Rdt d t) {s:St}: ∀(xs:List α) (cells:List Value),cells.length=xs.length*d.sz→(∀(i:Nat) x,xs[i]? =some x→d.E s x ((cells.drop (i*d.sz)).take d.sz))→ ∃F,TRs s false (xs.flatMap t) cells F
 | [],cells,hl,_=>⟨[],by
     have:cells=[]:=List.length_eq_zero_iff.1 (by simpa using hl)
     subst this;simp [TRs]⟩
 | x::xs,cells,hl,h=>by
   have h0:=h 0 x rfl
   rw [Nat.zero_mul,List.drop_zero] at h0
   obtain ⟨F1,g1⟩:=hd.2 s x _ h0
   rw [List.length_cons,Nat.add_mul,Nat.one_mul] at hl
   obtain ⟨F2,g2⟩:=fS hd xs (cells.drop d.sz) (by rw [List.length_drop];omega) (fun i y hy=>by
    have:=h (i+1) y (by simpa using hy)
    rwa [Nat.add_mul,Nat.one_mul,Nat.add_comm, ←List.drop_drop] at this)
   refine ⟨F1++F2, ?_⟩
   rw [List.flatMap_cons]
   exact J5.2 ⟨cells.take d.sz,cells.drop d.sz,F1,F2,(List.take_append_drop _ _).symm,g1,g2,rfl⟩
theorem SF {α:Type} {t:α→List T} {n:Nat} (h: ∀x,(t x).length=n): ∀xs:List α,(xs.flatMap t).length=xs.length*n
 | []=>by simp
 | x::xs=>by rw [List.flatMap_cons,List.length_append,h,SF h xs,List.length_cons,Nat.add_mul];omega
theorem lD {α:Type} {d:Kind α} {t:α→List T} {hsz:0<d.sz} (hd:Rdt d t):Rdt (kSl d hsz) fun xs=>[.l d.sz (xs.flatMap t)]:=
 ⟨fun _=>rfl,fun s xs cs ⟨v,h,cells,⟨h1,h2⟩,h3⟩=>by
  subst h
  obtain ⟨F,hF⟩:=fS hd xs cells h1 h3
  have hlen:=SF hd.1 xs
  rcases h2 with ⟨rfl,h0⟩ | ⟨b,off,ob,rfl,g1,g2,g3⟩
  ·have:xs=[]:=List.length_eq_zero_iff.1 h0
   subst this
   exact ⟨[],G9.2 ⟨nl,rfl,by simp [TR]⟩⟩
  ·refine ⟨b::F,G9.2 ⟨_,rfl,G4.2 (.inr ⟨b,off,xs.length,rfl,hlen,ob,F,g1,fun h=>(by cases h),by rw [hlen];exact g2, ?_,rfl⟩)⟩⟩
   rw [hlen,g3];exact hF⟩
theorem jT {C:Ctx} {ρ:Rho} {s:St} {f:FuncId} {g:Sg} {es args sv:List Value} {vs:List Value} {cs:List (List T)} {D:List Nat} (hr:Rel C ρ s C.w0) (ht: ∀h,s.n≤h→ρ h=none) (ha:EJ (VR ρ) es args) (hp:N9 s g.ps es vs cs sv [] D) (hg:g.rs=[(0,[.v])])
  (h:cl2 C f g vs cs fun vs' _=>vs'.head?=some (.bool true)):Calls C.P f args.toArray C.w0 fun e W'=>e= .returned (.bool true)∧Below C.w0.heap.size C.w0 W':=by
 obtain ⟨v,s',M',vs',cs',⟨hn,hgo⟩,_,hres,_,_,_,hk⟩:=h s es sv [] D hp List.nodup_nil (fun x hx=>by simp at hx)
 refine Calls.mono (hgo ρ C.w0 args (fun x h1 h2=>ht x h1) hr ha) fun e W' he=> ?_
 cases e with
 | returned u=>
   obtain ⟨ρ',_,hrel,hv⟩:=he
   obtain ⟨as',v1,v2,c1,c2,c3,M1,M2,M3,e1,e2,e3,e4,e5,hV,_,_⟩:=hres.ex
   rw [hg] at hV
   simp only [VH,KW] at hV
   obtain ⟨a,as2,us,w1,w2,d1,d2,N1,N2,rfl,rfl,rfl,⟨u1,us',vs1,rfl,rfl,_,rfl,rfl,_,_⟩,⟨rfl,rfl,_,_⟩,hu,_⟩:=hV
   subst e3
   simp only [List.cons_append,List.head?_cons,Option.some.injEq] at hk
   subst hk
   simp only [List.cons.injEq,and_true] at hu
   subst hu
   rw [e1] at hv
   have:u= .bool true:=hv
   exact ⟨by rw [this],hrel.bel⟩
 | outgrown=>exact he.elim
 | panicked x=>exact he.elim
end Go.Proofs.Ythapfcoajahegaa.Eng
namespace Go.Proofs.Ythapfcoajahegaa.Eng
open Go Go.RowKit
set_option linter.unusedVariables false
structure AE where
 live:Bool
 gen:Int
 site:Int
 holds:Int
 roots:Int
 count:Int
 field:List Int
 purple:Bool
structure Wk where
 used:Bool
 target:Int
structure Op5 where
 kind:Int
 a:Int
 b:Int
 c:Int
 site:ByteArray
structure An where
 code:Int
 val:Int
 freed:List Int
structure Nd where
 live:Bool
 gen:Int
 site:Int
 holds:Int
 roots:Int
 field:List Int
structure Hp where
 BC:List AE
 DO:List Wk
 buffer:List Int
 sites:List ByteArray
def tO (o:AE):List T:=[.c (.bool o.live), .c (I o.gen), .c (I o.site), .c (I o.holds), .c (I o.roots), .c (I o.count), .l 1 (tI o.field), .c (.bool o.purple)]
def tW (w:Wk):List T:=[.c (.bool w.used), .c (I w.target)]
def tP (o:Op5):List T:=[.c (I o.kind), .c (I o.a), .c (I o.b), .c (I o.c), .c (.string o.site)]
def tA (a:An):List T:=[.c (I a.code), .c (I a.val), .l 1 (tI a.freed)]
def tN (n:Nd):List T:=[.c (.bool n.live), .c (I n.gen), .c (I n.site), .c (I n.holds), .c (I n.roots), .l 1 (tI n.field)]
instance rwO:Rw tO 8:=⟨by omega,fun _=>rfl⟩
instance rwW:Rw tW 2:=⟨by omega,fun _=>rfl⟩
instance rwP:Rw tP 5:=⟨by omega,fun _=>rfl⟩
instance rwA:Rw tA 3:=⟨by omega,fun _=>rfl⟩
instance rwN:Rw tN 6:=⟨by omega,fun _=>rfl⟩
theorem A4 (l:List AE):cnt 8 (tR tO l)=l.length:=N4 l
theorem BA (l:List Wk):cnt 2 (tR tW l)=l.length:=N4 l
theorem AV (l:List Op5):cnt 5 (tR tP l)=l.length:=N4 l
theorem AW (l:List An):cnt 3 (tR tA l)=l.length:=N4 l
theorem AY (l:List Nd):cnt 6 (tR tN l)=l.length:=N4 l
theorem DV (l:List Wk):flat (tR tW l)=true:=by
 simp only [flat,tR,List.all_flatMap,List.all_eq_true];intro x _ t ht
 simp only [tW,List.mem_cons,List.not_mem_nil,or_false] at ht
 rcases ht with rfl | rfl <;> rfl
theorem EC (l:List Op5):flat (tR tP l)=true:=by
 simp only [flat,tR,List.all_flatMap,List.all_eq_true];intro x _ t ht
 simp only [tP,List.mem_cons,List.not_mem_nil,or_false] at ht
 rcases ht with rfl | rfl | rfl | rfl | rfl <;> rfl
section
variable {l:List AE} {i:Nat} {K:List T→Prop}
end
def gI (l:List Int) (i:Nat):Int:=l.getD i 0
def gS (l:List ByteArray) (i:Nat):ByteArray:=l.getD i ⟨#[]⟩
theorem I6 {l:List Int} {i:Nat} (h:i<l.length):l[i]=gI l i:=by simp [gI,h]
theorem aN {l:List ByteArray} {i:Nat} (h:i<l.length):l[i]=gS l i:=by simp [gS,h]
theorem ldI {l:List Int} {i:Nat} {K:Value→Prop} (hi:i<l.length) (h:K (I (gI l i))):ldc (tI l) [] (AB (iv i)*1) K:=by rw [←I6 hi] at h;exact DI hi h
theorem ldS {l:List ByteArray} {i:Nat} {K:Value→Prop} (hi:i<l.length) (h:K (.string (gS l i))):ldc (tS l) [] (AB (iv i)*1) K:=by rw [←aN hi] at h;exact FQ hi h
def ob (l:List AE) (i:Nat):AE:=l.getD i ⟨false,0,0,0,0,0,[],false⟩
theorem ID {l:List AE} {i:Nat} (h:i<l.length):l[i]=ob l i:=by simp [ob,h]
theorem GM {l:List AE} {i:Nat} {K:List T→Prop} (hi:i<l.length) (h:K (tO (ob l i))):ldg (tR tO l) [] (AB (iv i)*8) [.c, .c, .c, .c, .c, .c, .l 1, .c] K:=by rw [←ID hi] at h;exact CI hi rfl rfl h
theorem GF {l:List AE} {i c:Nat} {v:Value} {K:Value→Prop} (hi:i<l.length) (hc:c<8) (hv:(tO (ob l i))[c]? =some (.c v)) (h:K v):ldc (tR tO l) [] (AB (iv i)*8+c) K:=by rw [←ID hi] at hv;exact C1 hi hc hv h
theorem D8 {l:List AE} {i:Nat} {v:Value} {K:Value→Prop} (hi:i<l.length) (hv:(tO (ob l i))[0]? =some (.c v)) (h:K v):ldc (tR tO l) [] (AB (iv i)*8) K:=by rw [←ID hi] at hv;exact BV hi hv h
def wk (l:List Wk) (i:Nat):Wk:=l.getD i ⟨false,0⟩
theorem fV {l:List Wk} {i:Nat} (h:i<l.length):l[i]=wk l i:=by simp [wk,h]
theorem F8 {l:List Wk} {i:Nat} {K:List T→Prop} (hi:i<l.length) (h:K (tW (wk l i))):ldg (tR tW l) [] (AB (iv i)*2) [.c, .c] K:=by rw [←fV hi] at h;exact CI hi rfl rfl h
theorem F9 {l:List Wk} {i c:Nat} {v:Value} {K:Value→Prop} (hi:i<l.length) (hc:c<2) (hv:(tW (wk l i))[c]? =some (.c v)) (h:K v):ldc (tR tW l) [] (AB (iv i)*2+c) K:=by rw [←fV hi] at hv;exact C1 hi hc hv h
theorem DZ {l:List Wk} {i:Nat} {v:Value} {K:Value→Prop} (hi:i<l.length) (hv:(tW (wk l i))[0]? =some (.c v)) (h:K v):ldc (tR tW l) [] (AB (iv i)*2) K:=by rw [←fV hi] at hv;exact BV hi hv h
def po (l:List Op5) (i:Nat):Op5:=l.getD i ⟨0,0,0,0,⟨#[]⟩⟩
theorem dX {l:List Op5} {i:Nat} (h:i<l.length):l[i]=po l i:=by simp [po,h]
theorem FC {l:List Op5} {i:Nat} {K:List T→Prop} (hi:i<l.length) (h:K (tP (po l i))):ldg (tR tP l) [] (AB (iv i)*5) [.c, .c, .c, .c, .c] K:=by rw [←dX hi] at h;exact CI hi rfl rfl h
theorem ER {l:List Op5} {i c:Nat} {v:Value} {K:Value→Prop} (hi:i<l.length) (hc:c<5) (hv:(tP (po l i))[c]? =some (.c v)) (h:K v):ldc (tR tP l) [] (AB (iv i)*5+c) K:=by rw [←dX hi] at hv;exact C1 hi hc hv h
theorem C5 {l:List Op5} {i:Nat} {v:Value} {K:Value→Prop} (hi:i<l.length) (hv:(tP (po l i))[0]? =some (.c v)) (h:K v):ldc (tR tP l) [] (AB (iv i)*5) K:=by rw [←dX hi] at hv;exact BV hi hv h
def an (l:List An) (i:Nat):An:=l.getD i ⟨0,0,[]⟩
theorem VB {l:List An} {i:Nat} (h:i<l.length):l[i]=an l i:=by simp [an,h]
theorem FF {l:List An} {i:Nat} {K:List T→Prop} (hi:i<l.length) (h:K (tA (an l i))):ldg (tR tA l) [] (AB (iv i)*3) [.c, .c, .l 1] K:=by rw [←VB hi] at h;exact CI hi rfl rfl h
theorem FO {l:List An} {i c:Nat} {v:Value} {K:Value→Prop} (hi:i<l.length) (hc:c<3) (hv:(tA (an l i))[c]? =some (.c v)) (h:K v):ldc (tR tA l) [] (AB (iv i)*3+c) K:=by rw [←VB hi] at hv;exact C1 hi hc hv h
theorem C4 {l:List An} {i:Nat} {v:Value} {K:Value→Prop} (hi:i<l.length) (hv:(tA (an l i))[0]? =some (.c v)) (h:K v):ldc (tR tA l) [] (AB (iv i)*3) K:=by rw [←VB hi] at hv;exact BV hi hv h
def nd (l:List Nd) (i:Nat):Nd:=l.getD i ⟨false,0,0,0,0,[]⟩
theorem eG {l:List Nd} {i:Nat} (h:i<l.length):l[i]=nd l i:=by simp [nd,h]
theorem GO {l:List Nd} {i:Nat} {K:List T→Prop} (hi:i<l.length) (h:K (tN (nd l i))):ldg (tR tN l) [] (AB (iv i)*6) [.c, .c, .c, .c, .c, .l 1] K:=by rw [←eG hi] at h;exact CI hi rfl rfl h
theorem GH {l:List Nd} {i c:Nat} {v:Value} {K:Value→Prop} (hi:i<l.length) (hc:c<6) (hv:(tN (nd l i))[c]? =some (.c v)) (h:K v):ldc (tR tN l) [] (AB (iv i)*6+c) K:=by rw [←eG hi] at hv;exact C1 hi hc hv h
theorem DU {l:List Nd} {i:Nat} {v:Value} {K:Value→Prop} (hi:i<l.length) (hv:(tN (nd l i))[0]? =some (.c v)) (h:K v):ldc (tR tN l) [] (AB (iv i)*6) K:=by rw [←eG hi] at hv;exact BV hi hv h
theorem F6 {l:List AE} {i j:Nat} {K:Value→Prop} (hi:i<l.length) (hj:j<(ob l i).field.length) (h:K (I (gI (ob l i).field j))):ldc (tR tO l) [AB (iv i)*8+6] (AB (iv j)*1) K:=by
 rw [←I6 hj] at h
 have e:=ID hi
 exact XN hi (by decide) (ds:=tI (ob l i).field) (by rw [e];rfl) (DI hj h)
theorem GJ {l:List AE} {i:Nat} {K:Value→Prop} (hi:i<l.length) (h:K (iv 0)):ldl (tR tO l) [] (AB (iv i)*8+6) 1 K:=YD hi (by decide) rfl h
theorem GK {l:List Nd} {i j:Nat} {K:Value→Prop} (hi:i<l.length) (hj:j<(nd l i).field.length) (h:K (I (gI (nd l i).field j))):ldc (tR tN l) [AB (iv i)*6+5] (AB (iv j)*1) K:=by
 rw [←I6 hj] at h
 have e:=eG hi
 exact XN hi (by decide) (ds:=tI (nd l i).field) (by rw [e];rfl) (DI hj h)
theorem F7 {l:List Nd} {i:Nat} {K:Value→Prop} (hi:i<l.length) (h:K (iv 0)):ldl (tR tN l) [] (AB (iv i)*6+5) 1 K:=YD hi (by decide) rfl h
theorem YQ {l:List An} {i:Nat} (hi:i<l.length):LM (tR tA l) [AB (iv i)*3+2]=tI (an l i).freed:=by rw [←VB hi];exact Y6 hi (by decide) rfl
theorem FN {l:List An} {i j:Nat} {K:Value→Prop} (hi:i<l.length) (hj:j<(an l i).freed.length) (h:K (I (gI (an l i).freed j))):ldc (tR tA l) [AB (iv i)*3+2] (AB (iv j)*1) K:=by
 rw [←I6 hj] at h
 have e:=VB hi
 exact XN hi (by decide) (ds:=tI (an l i).freed) (by rw [e];rfl) (DI hj h)
theorem FE {l:List An} {i:Nat} {K:Value→Prop} (hi:i<l.length) (h:K (iv 0)):ldl (tR tA l) [] (AB (iv i)*3+2) 1 K:=YD hi (by decide) rfl h
end Go.Proofs.Ythapfcoajahegaa.Eng
