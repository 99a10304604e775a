/- A part of the proof. -/
import Derived.Test.YtklmcfpgdfibnaaKeEngM5
import Derived.Test.YtklmcfpgdfibnaaKeEngM2
namespace Go.Proofs.Ytklmcfpgdfibnaa.Eng
open Go Go.RowKit
set_option linter.unusedVariables false
set_option linter.unusedSimpArgs false
abbrev I (n:Int):Value:= .int .i64 n
def F64 (n:Int):Prop:= -2^63≤n∧n<2^63
theorem PB {n:Int} (h:F64 n):IntKind.i64.wrap n=n:=by
 obtain ⟨h1,h2⟩:=h
 rw [IntKind.wrap_i64];omega
theorem C2 {v:Value} {K:Value→Prop} (hp:plain v=true) (h:K v):prP (some v) K:=⟨v,rfl,hp,h⟩
theorem DN {a b:Int} {K:Value→Prop} (hf:F64 (a+b)) (h:K (I (a+b))):prP (bnI .add (I a) (I b)) K:=C2 (v:= .int .i64 (IntKind.i64.wrap (a+b))) rfl (by rw [PB hf];exact h)
theorem FJ {a b:Int} {K:Value→Prop} (hf:F64 (a-b)) (h:K (I (a-b))):prP (bnI .sub (I a) (I b)) K:=C2 (v:= .int .i64 (IntKind.i64.wrap (a-b))) rfl (by rw [PB hf];exact h)
theorem UJ {a b:Int} {K:Value→Prop} (hf:F64 (a*b)) (h:K (I (a*b))):prP (bnI .mul (I a) (I b)) K:=C2 (v:= .int .i64 (IntKind.i64.wrap (a*b))) rfl (by rw [PB hf];exact h)
theorem AY {a b:Int} {K:Value→Prop} (h:K (.bool (decide (a<b)))):prP (bnI .lss (I a) (I b)) K:=C2 rfl h
theorem HR {a b:Int} {K:Value→Prop} (h:K (.bool (decide (a≤b)))):prP (bnI .leq (I a) (I b)) K:=C2 rfl h
theorem HB {a b:Int} {K:Value→Prop} (h:K (.bool (decide (a>b)))):prP (bnI .gtr (I a) (I b)) K:=C2 rfl h
theorem JW {a b:Int} {K:Value→Prop} (h:K (.bool (decide (a≥b)))):prP (bnI .geq (I a) (I b)) K:=C2 rfl h
theorem tU {a b:Int} {K:Value→Prop} (h:K (.bool (a != b))):prP (bnI .neq (I a) (I b)) K:=C2 rfl h
theorem B2 {b:Bool} {K:Value→Prop} (h:K (.bool !b)):prP (un .not (.bool b)) K:=C2 rfl h
theorem dT {a b:ByteArray} {K:Value→Prop} (h:K (.bool (a.toList==b.toList))):prP (bnS .eql (.string a) (.string b)) K:=C2 rfl h
theorem sR {a b:ByteArray} {K:Value→Prop} (h:K (.bool !(a.toList==b.toList))):prP (bnS .neq (.string a) (.string b)) K:=C2 rfl h
theorem T2 {a:ByteArray} {K:Value→Prop} (h:K (I a.size)):prP (lnS (.string a)) K:=C2 rfl h
theorem TD {b:Bool} {p q:Prop} (h1:b=true→p) (h2:b=false→q):AX (.bool b) p q:=by
 cases b
 ·exact .inr ⟨rfl,h2 rfl⟩
 ·exact .inl ⟨rfl,h1 rfl⟩
theorem AW {c:Prop} [Decidable c] {p q:Prop} (h1:c→p) (h2: ¬c→q):AX (.bool (decide c)) p q:=
 TD (fun h=>h1 (of_decide_eq_true h)) (fun h=>h2 (of_decide_eq_false h))
theorem oW {cs:List T} {off:Nat} {v:Value} {K:Value→Prop} (hc:cs[off]? =some (.c v)) (h:K v):ldc cs [] off K:=⟨v,by simpa [cell,node] using hc,h⟩
def tI (l:List Int):List T:=l.map fun n=> .c (I n)
def tS (l:List ByteArray):List T:=l.map fun n=> .c (.string n)
theorem AE (l:List Int):cnt 1 (tI l)=l.length:=by simp [cnt,tI]
theorem AG (l:List ByteArray):cnt 1 (tS l)=l.length:=by simp [cnt,tS]
theorem iT {l:List Int} {i:Nat} {K:Value→Prop} (hi:i<l.length) (h:K (I l[i])):ldc (tI l) [] (AA (iv i)*1) K:=
 oW (by rw [A9,Nat.mul_one];simp [tI,hi]) h
theorem s6 {l:List ByteArray} {i:Nat} {K:Value→Prop} (hi:i<l.length) (h:K (.string l[i])):ldc (tS l) [] (AA (iv i)*1) K:=
 oW (by rw [A9,Nat.mul_one];simp [tS,hi]) h
theorem yI {l:List Int} {i:Nat} {v:Int} {K:List T→Prop} (hi:i<l.length) (h:K (tI (l.set i v))):stc (tI l) [] (AA (iv i)*1) (I v) K:=by
 rw [A9,Nat.mul_one]
 refine ⟨⟨I l[i],by simp [cell,node,tI,hi]⟩, ?_⟩
 have:JZ (tI l) [] i [.c (I v)]=tI (l.set i v):=by
  simp only [JZ,node,HY,MR,tI,List.length_singleton]
  rw [List.set_eq_take_append_cons_drop,if_pos hi]
  simp [List.map_take,List.map_drop]
 rw [this];exact h
theorem tJ {F:J2→J2} (xs:Nat→List Value) (cs:Nat→List (List T)) (n:Nat) (P:Nat→Prop) (h: ∀(R:J2) i,i≤n→P i→(i<n→P (i+1)→R (xs (i+1)) (cs (i+1)))→F R (xs i) (cs i)) {i:Nat} (hi:i≤n) (hP:P i):BE F (xs i) (cs i):=by
 intro R hR
 obtain ⟨k,hk⟩: ∃k,n=i+k:=⟨n-i,by omega⟩
 induction k generalizing i with
 | zero=>exact hR _ _ (h R i hi hP fun hlt=>by omega)
 | succ k ih=>exact hR _ _ (h R i hi hP fun hlt hp=>ih hlt hp (by omega))
theorem BH {F:J2→J2} {xs0:List Value} {cs0:List (List T)} (xs:Nat→List Value) (cs:Nat→List (List T)) (n:Nat) (P:Nat→Prop) (hx:xs0=xs 0) (hc:cs0=cs 0) (hP:P 0) (h: ∀(R:J2) i,i≤n→P i→(i<n→P (i+1)→R (xs (i+1)) (cs (i+1)))→F R (xs i) (cs i)):BE F xs0 cs0:=by
 subst hx;subst hc;exact tJ xs cs n P h (Nat.zero_le _) hP
theorem AJ {n j:Nat} {K:Value→Prop} (hj:j<n) (h:K (iv j)):ixW n (iv j) K:=⟨.i64,j,rfl,hj,h⟩
theorem BA {j:Nat} {K:Value→Prop} (hf:(j:Int)+1<2^63) (h:K (iv (j+1))):prP (bnI .add (iv j) (I 1)) K:=DN (a:=Int.ofNat j) ⟨by have:=Int.natCast_nonneg j;simp only [Int.ofNat_eq_natCast] at*;omega,by simpa using hf⟩ h
theorem vY {a b:Nat} {K:Value→Prop} (h:K (.bool (decide (a<b)))):prP (bnI .lss (iv a) (iv b)) K:=AY (a:=Int.ofNat a) (b:=Int.ofNat b) (by
 have:decide (Int.ofNat a<Int.ofNat b)=decide (a<b):=by simp
 rw [this];exact h)
end Go.Proofs.Ytklmcfpgdfibnaa.Eng
namespace Go.Proofs.Ytklmcfpgdfibnaa.Eng
open Go Go.RowKit
set_option linter.unusedVariables false
set_option linter.unusedSimpArgs false
def w64 (n:Int):Int:=IntKind.i64.wrap n
theorem JK {n:Int} (h:F64 n):w64 n=n:=PB h
theorem GH {a b:Int} {K:Value→Prop} (h:K (I (w64 (a+b)))):prP (bnI .add (I a) (I b)) K:=C2 rfl h
theorem XA {a b:Int} {K:Value→Prop} (h:K (I (w64 (a-b)))):prP (bnI .sub (I a) (I b)) K:=C2 rfl h
theorem BF {a b:Int} {K:Value→Prop} (h:K (.bool (decide (a=b)))):prP (bnI .eql (I a) (I b)) K:=C2 rfl h
theorem CM {a b:Int} {K:Value→Prop} (h:K (.bool (decide (a≠b)))):prP (bnI .neq (I a) (I b)) K:=by
 refine tU ?_
 have:(a != b)=decide (a≠b):=by rw [Bool.eq_iff_iff];simp
 rw [this];exact h
theorem UK {a b:Int} {K:Value→Prop} (ha:0≤a) (hb:0<b) (h:K (I (a % b))):prP (bnI .rem (I a) (I b)) K:=by
 refine ⟨.int .i64 (a.tmod b), ?_,rfl, ?_⟩
 ·simp [bnI];omega
 ·rw [Int.tmod_eq_emod_of_nonneg ha];exact h
theorem cH {a b:Int} {K:Value→Prop} (ha:0≤a) (hf:F64 a) (hb:0<b) (h:K (I (a/b))):prP (bnI .quo (I a) (I b)) K:=by
 have hd:a.tdiv b=a/b:=Int.tdiv_eq_ediv_of_nonneg ha
 have h1:0≤a/b:=Int.ediv_nonneg ha (by omega)
 have h2:a/b≤a:=Int.ediv_le_self _ ha
 refine ⟨.int .i64 (IntKind.i64.wrap (a.tdiv b)), ?_,rfl, ?_⟩
 ·simp [bnI];omega
 ·rw [hd,PB ⟨by omega,by have:=hf.2;omega⟩];exact h
theorem CQ {c:Prop} [Decidable c] {K:Value→Prop} (h:K (.bool (decide ¬c))):prP (un .not (.bool (decide c))) K:=by
 refine B2 ?_
 have:(!decide c)=decide ¬c:=by simp
 rw [this];exact h
theorem iV {a b:ByteArray} (h:a.toList=b.toList):a=b:=by
 rw [ByteArray.toList_eq,ByteArray.toList_eq] at h
 exact ByteArray.ext (Array.ext' h)
theorem gK {a b:ByteArray} {K:Value→Prop} (h:K (.bool (decide (a=b)))):prP (bnS .eql (.string a) (.string b)) K:=by
 refine dT ?_
 have:(a.toList==b.toList)=decide (a=b):=by
  rw [Bool.eq_iff_iff,beq_iff_eq,decide_eq_true_eq];exact ⟨iV,fun h=>by rw [h]⟩
 rw [this];exact h
theorem sJ {a b:ByteArray} {K:Value→Prop} (h:K (.bool (decide (a≠b)))):prP (bnS .neq (.string a) (.string b)) K:=by
 refine sR ?_
 have:(!(a.toList==b.toList))=decide (a≠b):=by
  rw [Bool.eq_iff_iff,Bool.not_eq_true',beq_eq_false_iff_ne,decide_eq_true_eq]
  exact ⟨fun h1 h2=>h1 (by rw [h2]),fun h1 h2=>h1 (iV h2)⟩
 rw [this];exact h
theorem uB {a b:Bool} {K:Value→Prop} (h:K (.bool (decide (a=b)))):prP (bnB .eql (.bool a) (.bool b)) K:=C2 (v:= .bool (a==b)) rfl (by
 have:(a==b)=decide (a=b):=by cases a <;> cases b <;> rfl
 rw [this];exact h)
theorem lV {b:Bool} {p q:Prop} (hb:b=true) (h:p):AX (.bool b) p q:= .inl ⟨by rw [hb],h⟩
theorem pB {b:Bool} {p q:Prop} (hb:b=false) (h:q):AX (.bool b) p q:= .inr ⟨by rw [hb],h⟩
theorem CY {c:Prop} [Decidable c] {p q:Prop} (hc:c) (h:p):AX (.bool (decide c)) p q:=lV (decide_eq_true hc) h
theorem C0 {c:Prop} [Decidable c] {p q:Prop} (hc: ¬c) (h:q):AX (.bool (decide c)) p q:=pB (decide_eq_false hc) h
theorem BC {b:Bool} {q:Prop} (h:q):gE (.bool b) q:=⟨rfl,h⟩
theorem QL {w a:Bool} {m:(Value→Prop)→Prop} {K:Value→Prop} (ha:a=w) (h:m K):gP (.bool a) w m K:= .inl ⟨by rw [ha],h⟩
theorem QZ {w a:Bool} {m:(Value→Prop)→Prop} {K:Value→Prop} (ha:a= !w) (h:K undef):gP (.bool a) w m K:= .inr ⟨.inl (by rw [ha]),h⟩
theorem uF {a:Bool} {m:(Value→Prop)→Prop} {K:Value→Prop} (ha:a=false) (h:K undef):gP (.bool a) true m K:=QZ ha h
theorem cJ {a:Bool} {m:(Value→Prop)→Prop} {K:Value→Prop} (ha:a=true) (h:K undef):gP (.bool a) false m K:=QZ ha h
theorem H4 {m:(Value→Prop)→Prop} {K:Value→Prop} (h:m K):gP (.bool true) true m K:=QL rfl h
theorem K7 {m:(Value→Prop)→Prop} {K:Value→Prop} (h:m K):gP (.bool false) false m K:=QL rfl h
theorem L5 {m:(Value→Prop)→Prop} {K:Value→Prop} (h:K undef):gP (.bool true) false m K:=QZ rfl h
theorem HC {m:(Value→Prop)→Prop} {K:Value→Prop} (h:K undef):gP (.bool false) true m K:=QZ rfl h
theorem Br {w:Bool} {m:(Value→Prop)→Prop} {K:Value→Prop} (h:K undef):gP undef w m K:= .inr ⟨.inr rfl,h⟩
theorem qW {a:Bool} {m:(Value→Prop)→Prop} {K:Value→Prop} (h1:a=true→m K) (h2:a=false→K undef):gP (.bool a) true m K:=by
 cases a
 ·exact QZ rfl (h2 rfl)
 ·exact QL rfl (h1 rfl)
theorem lG {a:Bool} {m:(Value→Prop)→Prop} {K:Value→Prop} (h1:a=false→m K) (h2:a=true→K undef):gP (.bool a) false m K:=by
 cases a
 ·exact QL rfl (h1 rfl)
 ·exact QZ rfl (h2 rfl)
theorem J1 {c:Prop} [Decidable c] {m:(Value→Prop)→Prop} {K:Value→Prop} (h1:c→m K) (h2: ¬c→K undef):gP (.bool (decide c)) true m K:=
 qW (fun h=>h1 (of_decide_eq_true h)) fun h=>h2 (of_decide_eq_false h)
theorem KM {c:Prop} [Decidable c] {m:(Value→Prop)→Prop} {K:Value→Prop} (h1: ¬c→m K) (h2:c→K undef):gP (.bool (decide c)) false m K:=
 lG (fun h=>h1 (of_decide_eq_false h)) fun h=>h2 (of_decide_eq_true h)
theorem FF {c:Prop} [Decidable c] {m:(Value→Prop)→Prop} {K:Value→Prop} (hc:c) (h:m K):gP (.bool (decide c)) true m K:=QL (decide_eq_true hc) h
theorem IB {c:Prop} [Decidable c] {m:(Value→Prop)→Prop} {K:Value→Prop} (hc: ¬c) (h:K undef):gP (.bool (decide c)) true m K:=QZ (decide_eq_false hc) h
theorem J3 {c:Prop} [Decidable c] {m:(Value→Prop)→Prop} {K:Value→Prop} (hc:c) (h:K undef):gP (.bool (decide c)) false m K:=QZ (decide_eq_true hc) h
theorem EC {c:Prop} [Decidable c] {m:(Value→Prop)→Prop} {K:Value→Prop} (hc: ¬c) (h:m K):gP (.bool (decide c)) false m K:=QL (decide_eq_false hc) h
theorem C4 {c:Prop} [Decidable c] {a b:Value} {K:Value→Prop} (hc:c) (hp:plain a=true) (h:K a):prP (pk (.bool (decide c)) a b) K:=by rw [decide_eq_true hc];exact C2 hp h
theorem CZ {c:Prop} [Decidable c] {a b:Value} {K:Value→Prop} (hc: ¬c) (hp:plain b=true) (h:K b):prP (pk (.bool (decide c)) a b) K:=by rw [decide_eq_false hc];exact C2 hp h
theorem oF {x:Bool} {a b:Value} {K:Value→Prop} (hc:x=true) (hp:plain a=true) (h:K a):prP (pk (.bool x) a b) K:=by rw [hc];exact C2 hp h
theorem sY {x:Bool} {a b:Value} {K:Value→Prop} (hc:x=false) (hp:plain b=true) (h:K b):prP (pk (.bool x) a b) K:=by rw [hc];exact C2 hp h
theorem w6 {c:Prop} [Decidable c] {a b:Value} {K:Value→Prop} (hp:plain a=true) (hq:plain b=true) (h1:c→K a) (h2: ¬c→K b):prP (pk (.bool (decide c)) a b) K:=by
 by_cases h:c
 ·exact C4 h hp (h1 h)
 ·exact CZ h hq (h2 h)
theorem zJ {c:Prop} [Decidable c] {v:Value} (hc:c):CB (.bool (decide c)) true v=v:=by rw [decide_eq_true hc];rfl
theorem yB {c:Prop} [Decidable c] {v:Value} (hc: ¬c):CB (.bool (decide c)) false v=v:=by rw [decide_eq_false hc];rfl
theorem uX {c:Prop} [Decidable c] {v:Value} (hc:c):CB (.bool (decide c)) false v=undef:=by rw [decide_eq_true hc];rfl
theorem vH {c:Prop} [Decidable c] {v:Value} (hc: ¬c):CB (.bool (decide c)) true v=undef:=by rw [decide_eq_false hc];rfl
theorem zF {a:Bool} {v:Value} (h:a=false):CB (.bool a) false v=v:=by rw [h];rfl
theorem PW {g b:Bool} {w:Bool} {q:Prop} (h:q):gE (CB (.bool g) w (.bool b)) q:=by cases g <;> cases w <;> exact ⟨rfl,h⟩
theorem lW {g:Bool} {w:Bool} {q:Prop} (h:q):gE (CB (.bool g) w undef) q:=by cases g <;> cases w <;> exact ⟨rfl,h⟩
theorem Ag {c:Prop} [Decidable c] {w:Bool} {v:Value} {m:(Value→Prop)→Prop} {K:Value→Prop} (hc:c) (h:gP v w m K):gP (CB (.bool (decide c)) true v) w m K:=by rw [zJ hc];exact h
theorem Be {c:Prop} [Decidable c] {w:Bool} {v:Value} {m:(Value→Prop)→Prop} {K:Value→Prop} (hc: ¬c) (h:K undef):gP (CB (.bool (decide c)) true v) w m K:=by rw [vH hc];exact Br h
theorem O8 {c:Prop} [Decidable c] {w:Bool} {v:Value} {m:(Value→Prop)→Prop} {K:Value→Prop} (hc: ¬c) (h:gP v w m K):gP (CB (.bool (decide c)) false v) w m K:=by rw [yB hc];exact h
theorem S1 {c:Prop} [Decidable c] {w:Bool} {v:Value} {m:(Value→Prop)→Prop} {K:Value→Prop} (hc:c) (h:K undef):gP (CB (.bool (decide c)) false v) w m K:=by rw [uX hc];exact Br h
theorem zM {c:Bool} {w:Bool} {v:Value} {m:(Value→Prop)→Prop} {K:Value→Prop} (hc:c=false) (h:gP v w m K):gP (CB (.bool c) false v) w m K:=by rw [zF hc];exact h
theorem jH {c:Prop} [Decidable c] {w:Bool} {v:Value} {m:(Value→Prop)→Prop} {K:Value→Prop} (h1: ¬c→gP v w m K) (h2:c→K undef):gP (CB (.bool (decide c)) false v) w m K:=by
 by_cases hc:c
 ·exact S1 hc (h2 hc)
 ·exact O8 hc (h1 hc)
theorem W6 {w:Bool} {v:Value} {m:(Value→Prop)→Prop} {K:Value→Prop} (h:gP v w m K):gP (CB (.bool false) false v) w m K:=zM rfl h
theorem By {w a:Bool} {p q:Prop} (ha:a=w) (h:p):gF (.bool a) w p q:= .inl ⟨by rw [ha],h⟩
theorem z8 {w a:Bool} {p q:Prop} (ha:a= !w) (h:q):gF (.bool a) w p q:= .inr ⟨.inl (by rw [ha]),h⟩
theorem Ap {c:Prop} [Decidable c] {p q:Prop} (h1: ¬c→p) (h2:c→q):gF (.bool (decide c)) false p q:=by
 by_cases h:c
 ·exact z8 (decide_eq_true h) (h2 h)
 ·exact By (decide_eq_false h) (h1 h)
theorem BV {p q:Prop} (h:p):AX (.bool true) p q:= .inl ⟨rfl,h⟩
theorem BU {p q:Prop} (h:q):AX (.bool false) p q:= .inr ⟨rfl,h⟩
theorem P9 {a b:Value} {K:Value→Prop} (hp:plain a=true) (h:K a):prP (pk (.bool true) a b) K:=C2 hp h
theorem P5 {a b:Value} {K:Value→Prop} (hp:plain b=true) (h:K b):prP (pk (.bool false) a b) K:=C2 hp h
theorem BD {a:Value} {l:List Value}:nx (a::l) 0=a:=rfl
theorem BJ {a b:Value} {l:List Value}:nx (a::b::l) 1=b:=rfl
theorem BL {a b c:Value} {l:List Value}:nx (a::b::c::l) 2=c:=rfl
theorem BK {a b c d:Value} {l:List Value}:nx (a::b::c::d::l) 3=d:=rfl
theorem BM {a b c d e:Value} {l:List Value}:nx (a::b::c::d::e::l) 4=e:=rfl
theorem BN {a b c d e f:Value} {l:List Value}:nx (a::b::c::d::e::f::l) 5=f:=rfl
theorem BG {a b c d e f g:Value} {l:List Value}:nx (a::b::c::d::e::f::g::l) 6=g:=rfl
theorem A4 {a:List T} {l:List (List T)}:nxc (a::l) 0=a:=rfl
theorem AZ {a b:List T} {l:List (List T)}:nxc (a::b::l) 1=b:=rfl
theorem A6 {a b c:List T} {l:List (List T)}:nxc (a::b::c::l) 2=c:=rfl
theorem A8 {a b c d:List T} {l:List (List T)}:nxc (a::b::c::d::l) 3=d:=rfl
theorem A5 {a b c d e:List T} {l:List (List T)}:nxc (a::b::c::d::e::l) 4=e:=rfl
theorem A7 {a b c d e f:List T} {l:List (List T)}:nxc (a::b::c::d::e::f::l) 5=f:=rfl
theorem AK {a:T}:cnt 1 [a]=1:=rfl
theorem AN:cnt 1 []=0:=rfl
theorem AP {a b:T}:cnt 2 [a,b]=1:=by simp [cnt]
theorem AR {a b c:T}:cnt 3 [a,b,c]=1:=by simp [cnt]
theorem AT {a b c d e:T}:cnt 5 [a,b,c,d,e]=1:=by simp [cnt]
theorem AQ {a b c d e f:T}:cnt 6 [a,b,c,d,e,f]=1:=by simp [cnt]
theorem AL {a b c d e f g h:T}:cnt 8 [a,b,c,d,e,f,g,h]=1:=by simp [cnt]
theorem DC {c:List T} {n m b:Nat} {q:Prop} (hf:flat c=true) (hn:(n+m)*b≤2^47) (h:q):apW c true n m b q:=⟨fun _=>hf,hn,h⟩
theorem fO {c:List T} {n m b:Nat} {q:Prop} (hn:(n+m)*b≤2^47) (h:q):apW c false n m b q:=⟨fun hx=>(by cases hx),hn,h⟩
theorem KZ (l:List Int):flat (tI l)=true:=by simp [flat,tI,isC]
theorem TS (l:List ByteArray):flat (tS l)=true:=by simp [flat,tS,isC]
theorem Q8 {n:Nat} {a:Int} {K:Value→Prop} (h0:0≤a) (h1:a<n) (h:K (iv a.toNat)):ixW n (I a) K:=
 ⟨.i64,a.toNat,by rw [Int.ofNat_eq_natCast,Int.toNat_of_nonneg h0],by omega,h⟩
theorem BP {f:J2} {g:J2→Prop} (h:g f):BS f g:=h
theorem DI {α:Type} {F:J2→J2} {xs0:List Value} {cs0:List (List T)} (xs:α→List Value) (cs:α→List (List T)) (μ:α→Nat) (P:α→Prop) (a:α) (hx:xs0=xs a) (hc:cs0=cs a) (hP:P a)
  (h: ∀(R:J2) a,P a→(∀b,P b→μ b<μ a→R (xs b) (cs b))→F R (xs a) (cs a)):BE F xs0 cs0:=by
 subst hx;subst hc
 intro R hR
 have: ∀k a,μ a<k→P a→R (xs a) (cs a):=by
  intro k
  induction k with
  | zero=>intro a hk _;omega
  | succ k ih=>intro a hk hp;exact hR _ _ (h R a hp fun b hb hlt=>ih b (by omega) hb)
 exact this _ a (Nat.lt_succ_self _) hP
def tR {α:Type} (f:α→List T) (l:List α):List T:=l.flatMap f
class Rw {α:Type} (f:α→List T) (e:outParam Nat):Prop where
 pos:1<e
 len: ∀x,(f x).length=e
section
variable {α:Type} {f:α→List T} {e:Nat}
theorem xZ:tR f []=[]:=rfl
theorem NY (x:α) (l:List α):tR f (x::l)=f x++tR f l:=rfl
theorem xY (l m:List α):tR f (l++m)=tR f l++tR f m:=by simp [tR]
theorem WH (l:List α) (x:α):tR f l++f x=tR f (l++[x]):=by simp [tR]
theorem Y7 [hr:Rw f e] (l:List α):(tR f l).length=l.length*e:=by
 induction l with
 | nil=>simp [tR]
 | cons x l ih=>rw [NY,List.length_append,ih,hr.len,List.length_cons,Nat.add_mul];omega
theorem X9 [hr:Rw f e] (l:List α):cnt e (tR f l)=l.length:=by
 have hp:=hr.pos
 have:cnt e (tR f l)=(tR f l).length/e:=by
  match e,hp with
  | k+2,_=>rfl
 rw [this,Y7,Nat.mul_div_cancel _ (by omega)]
theorem RT [hr:Rw f e]: ∀{l:List α} {i:Nat} (hi:i<l.length) {c:Nat},c<e→(tR f l)[i*e+c]? =(f l[i])[c]?
 | x::l,0,hi,c,hc=>by
   rw [NY,Nat.zero_mul,Nat.zero_add,List.getElem?_append_left (by rw [hr.len];exact hc)];rfl
 | x::l,i+1,hi,c,hc=>by
   have h1:i<l.length:=by simpa using hi
   rw [NY,List.getElem?_append_right (by rw [hr.len,Nat.add_mul];omega),hr.len]
   have:(i+1)*e+c-e=i*e+c:=by rw [Nat.add_mul];omega
   rw [this,RT h1 hc];rfl
theorem WC [hr:Rw f e]: ∀(l:List α) (i:Nat),(tR f l).drop (i*e)=tR f (l.drop i)
 | l,0=>by simp
 | [],i+1=>by simp [tR]
 | x::l,i+1=>by
   rw [NY,List.drop_succ_cons, ←WC l i]
   have:(i+1)*e=(f x).length+i*e:=by rw [Nat.add_mul,hr.len];omega
   rw [this,List.drop_append,List.drop_of_length_le (by omega)]
   simp
theorem UM [hr:Rw f e]: ∀(l:List α) (i:Nat),(tR f l).take (i*e)=tR f (l.take i)
 | l,0=>by simp [tR]
 | [],i+1=>by simp [tR]
 | x::l,i+1=>by
   rw [NY,List.take_succ_cons,NY, ←UM l i]
   have:(i+1)*e=(f x).length+i*e:=by rw [Nat.add_mul,hr.len];omega
   rw [this,List.take_append,List.take_of_length_le (by omega)]
   simp
theorem sA [hr:Rw f e] {l:List α} {i:Nat} (hi:i<l.length):((tR f l).drop (i*e)).take e=f l[i]:=by
 have h1:=UM (f:=f) (l.drop i) 1
 rw [Nat.one_mul] at h1
 rw [WC,h1,List.drop_eq_getElem_cons hi,List.take_succ_cons,List.take_zero,NY,xZ,List.append_nil]
theorem qV [hr:Rw f e] {l:List α} {i:Nat} (hi:i<l.length) (y:α):MR (tR f l) (i*e) (f y)=tR f (l.set i y):=by
 have h1:i*e+e=(i+1)*e:=by rw [Nat.add_mul];omega
 rw [MR,hr.len,h1,UM,WC,List.set_eq_take_append_cons_drop,if_pos hi,xY,NY]
theorem jN [hr:Rw f e] {l:List α} {i:Nat} (hi:i<l.length) {c:Nat} (hc:c<e) {t:T} {y:α} (hy:f y=(f l[i]).set c t):(tR f l).set (i*e+c) t=tR f (l.set i y):=by
 rw [←qV (f:=f) hi y,hy,MR,List.length_set,hr.len]
 have h0:tR f l=(tR f l).take (i*e)++(f l[i]++(tR f l).drop (i*e+e)):=by
  rw [←sA (f:=f) hi, ←List.drop_drop,List.take_append_drop,List.take_append_drop]
 have h1:((tR f l).take (i*e)).length=i*e:=by
  rw [UM,Y7,List.length_take];congr 1;omega
 conv=>lhs;rw [h0]
 rw [List.set_append_right _ _ (by rw [h1];omega),h1,Nat.add_sub_cancel_left,List.set_append_left _ _ (by rw [hr.len];exact hc)]
theorem Y8 {ds:List T} {off:Nat} {t:T} (h:off<ds.length):MR ds off [t]=ds.set off t:=by
 rw [MR,List.length_singleton,List.set_eq_take_append_cons_drop,if_pos h];rfl
theorem TF [hr:Rw f e] {l:List α} {i:Nat} (hi:i<l.length) {c:Nat} {v:Value} {K:Value→Prop} (hc:c<e) (hv:(f l[i])[c]? =some (.c v)) (h:K v):ldc (tR f l) [] (AA (iv i)*e+c) K:=by
 rw [A9];exact ⟨v,by simp only [cell,node,Option.bind_some];rw [RT hi hc];exact hv,h⟩
theorem T6 [hr:Rw f e] {l:List α} {i:Nat} (hi:i<l.length) {v:Value} {K:Value→Prop} (hv:(f l[i])[0]? =some (.c v)) (h:K v):ldc (tR f l) [] (AA (iv i)*e) K:=
 TF hi (c:=0) (by have:=hr.pos;omega) hv h
theorem PH [hr:Rw f e] {l:List α} {i:Nat} (hi:i<l.length) {c e':Nat} {ds:List T} {K:Value→Prop} (hc:c<e) (hv:(f l[i])[c]? =some (.l e' ds)) (h:K (iv 0)):ldl (tR f l) [] (AA (iv i)*e+c) e' K:=by
 rw [A9];exact ⟨⟨ds,by simp only [cell,node,Option.bind_some];rw [RT hi hc];exact hv⟩,h⟩
theorem c7 [hr:Rw f e] {l:List α} {i:Nat} (hi:i<l.length) {ks:List CK} {K:List T→Prop} (hn:ks.length=e) (hk:MI ks (f l[i])=true) (h:K (f l[i])):ldg (tR f l) [] (AA (iv i)*e) ks K:=by
 refine ⟨f l[i], ?_,hk,h⟩
 rw [A9,hn];simp only [G4,node];exact sA hi
theorem cM [hr:Rw f e] {l:List α} {i:Nat} (hi:i<l.length) {c e':Nat} {ds:List T} {pre:List Nat} (hc:c<e) (hv:(f l[i])[c]? =some (.l e' ds)):node (tR f l) ((AA (iv i)*e+c)::pre)=node ds pre:=by
 rw [A9];simp only [node,RT hi hc,hv]
theorem cS [hr:Rw f e] {l:List α} {i:Nat} (hi:i<l.length) {c e':Nat} {ds:List T} (hc:c<e) (hv:(f l[i])[c]? =some (.l e' ds)):EG (tR f l) [AA (iv i)*e+c]=ds:=by
 have h:=cM hi hc hv (pre:=[])
 simp only [EG,h];rfl
theorem kJ [hr:Rw f e] {l:List α} {i:Nat} (hi:i<l.length) {c e' off:Nat} {ds:List T} {K:Value→Prop} (hc:c<e) (hv:(f l[i])[c]? =some (.l e' ds)) (h:ldc ds [] off K):ldc (tR f l) [AA (iv i)*e+c] off K:=by
 obtain ⟨v,h1,h2⟩:=h
 have h3:=cM hi hc hv (pre:=[])
 refine ⟨v, ?_,h2⟩
 unfold cell at h1 ⊢
 rw [h3];exact h1
theorem vJ [hr:Rw f e] {l:List α} {i:Nat} (hi:i<l.length) {c e':Nat} {ds ds':List T} {y:α} (hc:c<e) (hv:(f l[i])[c]? =some (.l e' ds)) (hy:f y=(f l[i]).set c (.l e' ds')):HY (tR f l) [AA (iv i)*e+c] ds'=tR f (l.set i y):=by
 rw [A9]
 simp only [HY,RT hi hc,hv]
 exact jN hi hc hy
theorem OB [hr:Rw f e] {l:List α} {i:Nat} (hi:i<l.length) {c:Nat} {v w:Value} {y:α} {K:List T→Prop} (hc:c<e) (hv:(f l[i])[c]? =some (.c w)) (hy:f y=(f l[i]).set c (.c v)) (h:K (tR f (l.set i y))):stc (tR f l) [] (AA (iv i)*e+c) v K:=by
 rw [A9]
 have hlt:i*e+c<(tR f l).length:=by
  rw [Y7]
  have:(i+1)*e≤l.length*e:=Nat.mul_le_mul_right _ hi
  rw [Nat.add_mul] at this;omega
 refine ⟨⟨w,by simp only [cell,node,Option.bind_some];rw [RT hi hc];exact hv⟩, ?_⟩
 have:JZ (tR f l) [] (i*e+c) [.c v]=tR f (l.set i y):=by
  simp only [JZ,node,HY]
  rw [Y8 hlt,jN hi hc hy]
 rw [this];exact h
theorem mB [hr:Rw f e] {l:List α} {i:Nat} (hi:i<l.length) {c e' off:Nat} {v w:Value} {ds:List T} {y:α} {K:List T→Prop} (hc:c<e) (hv:(f l[i])[c]? =some (.l e' ds)) (hw:ds[off]? =some (.c w)) (hy:f y=(f l[i]).set c (.l e' (ds.set off (.c v)))) (h:K (tR f (l.set i y))):stc (tR f l) [AA (iv i)*e+c] off v K:=by
 have hlt:off<ds.length:=(List.getElem?_eq_some_iff.1 hw).1
 have h3:node (tR f l) [AA (iv i)*e+c]=some ds:=cM hi hc hv (pre:=[])
 refine ⟨⟨w,by unfold cell;rw [h3];exact hw⟩, ?_⟩
 have:JZ (tR f l) [AA (iv i)*e+c] off [.c v]=tR f (l.set i y):=by
  unfold JZ
  rw [h3]
  simp only
  rw [Y8 hlt,vJ hi hc hv hy]
 rw [this];exact h
theorem KF [hr:Rw f e] {l:List α} {i:Nat} (hi:i<l.length) {ts:List T} {y:α} {K:List T→Prop} (hy:ts=f y) (h:K (tR f (l.set i y))):stg (tR f l) [] (AA (iv i)*e) ts K:=by
 subst hy
 rw [A9]
 refine ⟨⟨_,rfl, ?_⟩, ?_⟩
 ·rw [hr.len,Y7]
  have:(i+1)*e≤l.length*e:=Nat.mul_le_mul_right _ hi
  rw [Nat.add_mul] at this;omega
 ·have:JZ (tR f l) [] (i*e) (f y)=tR f (l.set i y):=by
   simp only [JZ,node,HY];exact qV hi y
  rw [this];exact h
theorem kB [hr:Rw f e] {cur:List α} {i:Nat} (hi:i<cur.length) {y y':α} {c:Nat} {v w:Value} {K:List T→Prop} (hc:c<e) (hv:(f y)[c]? =some (.c w)) (hy:f y'=(f y).set c (.c v)) (h:K (tR f (cur.set i y'))):stc (tR f (cur.set i y)) [] (AA (iv i)*e+c) v K:=
 OB (l:=cur.set i y) (by simpa using hi) (y:=y') hc (by rw [List.getElem_set_self];exact hv) (by rw [List.getElem_set_self];exact hy) (by rw [List.set_set];exact h)
theorem oZ [hr:Rw f e] {cur:List α} {i:Nat} (hi:i<cur.length) {y:α} {c e':Nat} {ds:List T} (hc:c<e) (hv:(f y)[c]? =some (.l e' ds)):EG (tR f (cur.set i y)) [AA (iv i)*e+c]=ds:=
 cS (l:=cur.set i y) (by simpa using hi) hc (by rw [List.getElem_set_self];exact hv)
theorem WI [hr:Rw f e] {cur:List α} {i:Nat} (hi:i<cur.length) {y:α} {c e':Nat} {ds:List T} {K:Value→Prop} (hc:c<e) (hv:(f y)[c]? =some (.l e' ds)) (h:K (iv 0)):ldl (tR f (cur.set i y)) [] (AA (iv i)*e+c) e' K:=
 PH (l:=cur.set i y) (by simpa using hi) hc (by rw [List.getElem_set_self];exact hv) h
theorem JA [hr:Rw f e] {cur:List α} {i:Nat} (hi:i<cur.length) {y:α} {c:Nat} {v:Value} {K:Value→Prop} (hc:c<e) (hv:(f y)[c]? =some (.c v)) (h:K v):ldc (tR f (cur.set i y)) [] (AA (iv i)*e+c) K:=
 TF (l:=cur.set i y) (by simpa using hi) hc (by rw [List.getElem_set_self];exact hv) h
theorem s9 [hr:Rw f e] {cur:List α} {i:Nat} (hi:i<cur.length) {y:α} {v:Value} {K:Value→Prop} (hv:(f y)[0]? =some (.c v)) (h:K v):ldc (tR f (cur.set i y)) [] (AA (iv i)*e) K:=
 JA hi (c:=0) (by have:=hr.pos;omega) hv h
theorem tZ {cur:List α} {i:Nat} (hi:i<cur.length):tR f cur=tR f (cur.set i cur[i]):=by rw [List.set_getElem_self]
theorem lC (n:Nat) (x:α):R6 n (f x)=tR f (List.replicate n x):=by
 simp only [R6,tR]
 induction n with
 | zero=>rfl
 | succ n ih=>rw [List.replicate_succ,List.replicate_succ,List.flatten_cons,List.flatMap_cons,ih]
theorem wA [hr:Rw f e] (l:List α) (a m:Nat):G4 (tR f l) [] (a*e) (m*e)=tR f ((l.drop a).take m):=by
 simp only [G4,node]
 rw [WC,UM]
end
theorem DO (l:List Int) (n:Int):tI l++[T.c (I n)]=tI (l++[n]):=by simp [tI]
theorem WQ (l:List ByteArray) (n:ByteArray):tS l++[T.c (.string n)]=tS (l++[n]):=by simp [tS]
theorem jT {l:List Int} {j:Nat} (hj:j<l.length):(tI l)[j]? =some (.c (I l[j])):=by simp [tI,hj]
theorem iX {l:List Int} {j:Nat} {v:Int}:(tI l).set j (.c (I v))=tI (l.set j v):=by simp [tI,List.map_set]
end Go.Proofs.Ytklmcfpgdfibnaa.Eng
namespace Go.Proofs.Ytklmcfpgdfibnaa.Eng
open Go Go.RowKit
set_option linter.unusedVariables false
def Rdt {α:Type} (d:Kind α) (t:α→List T):Prop:=(∀x,(t x).length=d.sz)∧ ∀s x cs,d.E s x cs→ ∃F,TRs s false (t x) cs F
theorem zR:Rdt (yF .u8) fun n=>[.c (.int .u8 n)]:=⟨fun _=>rfl,fun s x cs h=>⟨[],by subst h;simp [TRs,TR,plain]⟩⟩
theorem mF {α:Type} {d:Kind α} {t:α→List T} (hd:Rdt d t) {s:St}: ∀(xs:List α) (cells:List Value),cells.length=xs.length*d.sz→(∀(i:Nat) x,xs[i]? =some x→d.E s x ((cells.drop (i*d.sz)).take d.sz))→ ∃F,TRs s false (xs.flatMap t) cells F
 | [],cells,hl,_=>⟨[],by
     have:cells=[]:=List.length_eq_zero_iff.1 (by simpa using hl)
     subst this;simp [TRs]⟩
 | x::xs,cells,hl,h=>by
   have h0:=h 0 x rfl
   rw [Nat.zero_mul,List.drop_zero] at h0
   obtain ⟨F1,g1⟩:=hd.2 s x _ h0
   rw [List.length_cons,Nat.add_mul,Nat.one_mul] at hl
   obtain ⟨F2,g2⟩:=mF hd xs (cells.drop d.sz) (by rw [List.length_drop];omega) (fun i y hy=>by
    have:=h (i+1) y (by simpa using hy)
    rwa [Nat.add_mul,Nat.one_mul,Nat.add_comm, ←List.drop_drop] at this)
   refine ⟨F1++F2, ?_⟩
   rw [List.flatMap_cons]
   exact MQ.2 ⟨cells.take d.sz,cells.drop d.sz,F1,F2,(List.take_append_drop _ _).symm,g1,g2,rfl⟩
theorem VI {α:Type} {t:α→List T} {n:Nat} (h: ∀x,(t x).length=n): ∀xs:List α,(xs.flatMap t).length=xs.length*n
 | []=>by simp
 | x::xs=>by rw [List.flatMap_cons,List.length_append,h,VI h xs,List.length_cons,Nat.add_mul];omega
theorem yG {α:Type} {d:Kind α} {t:α→List T} {hsz:0<d.sz} (hd:Rdt d t):Rdt (kSl d hsz) fun xs=>[.l d.sz (xs.flatMap t)]:=
 ⟨fun _=>rfl,fun s xs cs ⟨v,h,cells,⟨h1,h2⟩,h3⟩=>by
  subst h
  obtain ⟨F,hF⟩:=mF hd xs cells h1 h3
  have hlen:=VI hd.1 xs
  rcases h2 with ⟨rfl,h0⟩ | ⟨b,off,ob,rfl,g1,g2,g3⟩
  ·have:xs=[]:=List.length_eq_zero_iff.1 h0
   subst this
   exact ⟨[],IQ.2 ⟨nl,rfl,by simp [TR]⟩⟩
  ·refine ⟨b::F,IQ.2 ⟨_,rfl,IC.2 (.inr ⟨b,off,xs.length,rfl,hlen,ob,F,g1,fun h=>(by cases h),by rw [hlen];exact g2, ?_,rfl⟩)⟩⟩
   rw [hlen,g3];exact hF⟩
theorem qX {C:Ctx} {ρ:Rho} {s:St} {f:FuncId} {g:Sg} {es args sv:List Value} {vs:List Value} {cs:List (List T)} {D:List Nat} (hr:Rel C ρ s C.w0) (ht: ∀h,s.n≤h→ρ h=none) (ha:GF (VR ρ) es args) (hp:QH s g.ps es vs cs sv [] D) (hg:g.rs=[(0,[.v])])
  (h:cl2 C f g vs cs fun vs' _=>vs'.head?=some (.bool true)):Calls C.P f args.toArray C.w0 fun e W'=>e= .returned (.bool true)∧Below C.w0.heap.size C.w0 W':=by
 obtain ⟨v,s',M',vs',cs',⟨hn,hgo⟩,_,hres,_,_,_,hk⟩:=h s es sv [] D hp List.nodup_nil (fun x hx=>by simp at hx)
 refine Calls.mono (hgo ρ C.w0 args (fun x h1 h2=>ht x h1) hr ha) fun e W' he=> ?_
 cases e with
 | returned u=>
   obtain ⟨ρ',_,hrel,hv⟩:=he
   obtain ⟨as',v1,v2,c1,c2,c3,M1,M2,M3,e1,e2,e3,e4,e5,hV,_,_⟩:=hres.ex
   rw [hg] at hV
   simp only [ZN,OU] at hV
   obtain ⟨a,as2,us,w1,w2,d1,d2,N1,N2,rfl,rfl,rfl,⟨u1,us',vs1,rfl,rfl,_,rfl,rfl,_,_⟩,⟨rfl,rfl,_,_⟩,hu,_⟩:=hV
   subst e3
   simp only [List.cons_append,List.head?_cons,Option.some.injEq] at hk
   subst hk
   simp only [List.cons.injEq,and_true] at hu
   subst hu
   rw [e1] at hv
   have:u= .bool true:=hv
   exact ⟨by rw [this],hrel.bel⟩
 | outgrown=>exact he.elim
 | panicked x=>exact he.elim
end Go.Proofs.Ytklmcfpgdfibnaa.Eng
namespace Go.Proofs.Ytklmcfpgdfibnaa.Eng
open Go Go.RowKit
set_option linter.unusedVariables false
structure AU where
 live:Bool
 gen:Int
 site:Int
 holds:Int
 roots:Int
 count:Int
 field:List Int
 purple:Bool
structure Wk where
 used:Bool
 target:Int
structure Op5 where
 kind:Int
 a:Int
 b:Int
 c:Int
 site:ByteArray
structure An where
 code:Int
 val:Int
 freed:List Int
structure Nd where
 live:Bool
 gen:Int
 site:Int
 holds:Int
 roots:Int
 field:List Int
structure Hp where
 AD:List AU
 BW:List Wk
 buffer:List Int
 sites:List ByteArray
def tO (o:AU):List T:=[.c (.bool o.live), .c (I o.gen), .c (I o.site), .c (I o.holds), .c (I o.roots), .c (I o.count), .l 1 (tI o.field), .c (.bool o.purple)]
def tW (w:Wk):List T:=[.c (.bool w.used), .c (I w.target)]
def tP (o:Op5):List T:=[.c (I o.kind), .c (I o.a), .c (I o.b), .c (I o.c), .c (.string o.site)]
def tA (a:An):List T:=[.c (I a.code), .c (I a.val), .l 1 (tI a.freed)]
def tN (n:Nd):List T:=[.c (.bool n.live), .c (I n.gen), .c (I n.site), .c (I n.holds), .c (I n.roots), .l 1 (tI n.field)]
instance rwO:Rw tO 8:=⟨by omega,fun _=>rfl⟩
instance rwW:Rw tW 2:=⟨by omega,fun _=>rfl⟩
instance rwP:Rw tP 5:=⟨by omega,fun _=>rfl⟩
instance rwA:Rw tA 3:=⟨by omega,fun _=>rfl⟩
instance rwN:Rw tN 6:=⟨by omega,fun _=>rfl⟩
theorem AI (l:List AU):cnt 8 (tR tO l)=l.length:=X9 l
theorem AO (l:List Wk):cnt 2 (tR tW l)=l.length:=X9 l
theorem AM (l:List Op5):cnt 5 (tR tP l)=l.length:=X9 l
theorem AS (l:List An):cnt 3 (tR tA l)=l.length:=X9 l
theorem AH (l:List Nd):cnt 6 (tR tN l)=l.length:=X9 l
theorem wS (l:List AU) (x:AU):tR tO l++[T.c (.bool x.live), .c (I x.gen), .c (I x.site), .c (I x.holds), .c (I x.roots), .c (I x.count), .l 1 (tI x.field), .c (.bool x.purple)]=tR tO (l++[x]):=WH l x
theorem UQ (l:List Wk):flat (tR tW l)=true:=by
 simp only [flat,tR,List.all_flatMap,List.all_eq_true];intro x _ t ht
 simp only [tW,List.mem_cons,List.not_mem_nil,or_false] at ht
 rcases ht with rfl | rfl <;> rfl
theorem w3 (l:List Op5):flat (tR tP l)=true:=by
 simp only [flat,tR,List.all_flatMap,List.all_eq_true];intro x _ t ht
 simp only [tP,List.mem_cons,List.not_mem_nil,or_false] at ht
 rcases ht with rfl | rfl | rfl | rfl | rfl <;> rfl
section
variable {l:List AU} {i:Nat} {K:List T→Prop}
theorem uH {v:Int} (hi:i<l.length) (h:K (tR tO (l.set i {l[i] with gen:=v}))):stc (tR tO l) [] (AA (iv i)*8+1) (I v) K:=OB hi (by decide) rfl rfl h
theorem aO {v:Int} (hi:i<l.length) (h:K (tR tO (l.set i {l[i] with holds:=v}))):stc (tR tO l) [] (AA (iv i)*8+3) (I v) K:=OB hi (by decide) rfl rfl h
theorem oE {v:Int} (hi:i<l.length) (h:K (tR tO (l.set i {l[i] with count:=v}))):stc (tR tO l) [] (AA (iv i)*8+5) (I v) K:=OB hi (by decide) rfl rfl h
theorem oB {j:Nat} {v:Int} (hi:i<l.length) (hj:j<l[i].field.length) (h:K (tR tO (l.set i {l[i] with field:=l[i].field.set j v}))):stc (tR tO l) [AA (iv i)*8+6] (AA (iv j)*1) (I v) K:=by
 rw [A9 j,Nat.mul_one]
 exact mB hi (by decide) rfl (jT hj) (by simp only [iX];rfl) h
end
def gI (l:List Int) (i:Nat):Int:=l.getD i 0
def gS (l:List ByteArray) (i:Nat):ByteArray:=l.getD i ⟨#[]⟩
theorem DL {l:List Int} {i:Nat} (h:i<l.length):l[i]=gI l i:=by simp [gI,h]
theorem QK {l:List ByteArray} {i:Nat} (h:i<l.length):l[i]=gS l i:=by simp [gS,h]
theorem ldI {l:List Int} {i:Nat} {K:Value→Prop} (hi:i<l.length) (h:K (I (gI l i))):ldc (tI l) [] (AA (iv i)*1) K:=by rw [←DL hi] at h;exact iT hi h
theorem ldS {l:List ByteArray} {i:Nat} {K:Value→Prop} (hi:i<l.length) (h:K (.string (gS l i))):ldc (tS l) [] (AA (iv i)*1) K:=by rw [←QK hi] at h;exact s6 hi h
def ob (l:List AU) (i:Nat):AU:=l.getD i ⟨false,0,0,0,0,0,[],false⟩
theorem DH {l:List AU} {i:Nat} (h:i<l.length):l[i]=ob l i:=by simp [ob,h]
theorem OC {l:List AU} {i:Nat} {K:List T→Prop} (hi:i<l.length) (h:K (tO (ob l i))):ldg (tR tO l) [] (AA (iv i)*8) [.c, .c, .c, .c, .c, .c, .l 1, .c] K:=by rw [←DH hi] at h;exact c7 hi rfl rfl h
theorem H0 {l:List AU} {i c:Nat} {v:Value} {K:Value→Prop} (hi:i<l.length) (hc:c<8) (hv:(tO (ob l i))[c]? =some (.c v)) (h:K v):ldc (tR tO l) [] (AA (iv i)*8+c) K:=by rw [←DH hi] at hv;exact TF hi hc hv h
theorem LU {l:List AU} {i:Nat} {v:Value} {K:Value→Prop} (hi:i<l.length) (hv:(tO (ob l i))[0]? =some (.c v)) (h:K v):ldc (tR tO l) [] (AA (iv i)*8) K:=by rw [←DH hi] at hv;exact T6 hi hv h
def wk (l:List Wk) (i:Nat):Wk:=l.getD i ⟨false,0⟩
theorem XU {l:List Wk} {i:Nat} (h:i<l.length):l[i]=wk l i:=by simp [wk,h]
theorem hQ {l:List Wk} {i:Nat} {K:List T→Prop} (hi:i<l.length) (h:K (tW (wk l i))):ldg (tR tW l) [] (AA (iv i)*2) [.c, .c] K:=by rw [←XU hi] at h;exact c7 hi rfl rfl h
theorem jP {l:List Wk} {i c:Nat} {v:Value} {K:Value→Prop} (hi:i<l.length) (hc:c<2) (hv:(tW (wk l i))[c]? =some (.c v)) (h:K v):ldc (tR tW l) [] (AA (iv i)*2+c) K:=by rw [←XU hi] at hv;exact TF hi hc hv h
theorem LY {l:List Wk} {i:Nat} {v:Value} {K:Value→Prop} (hi:i<l.length) (hv:(tW (wk l i))[0]? =some (.c v)) (h:K v):ldc (tR tW l) [] (AA (iv i)*2) K:=by rw [←XU hi] at hv;exact T6 hi hv h
def po (l:List Op5) (i:Nat):Op5:=l.getD i ⟨0,0,0,0,⟨#[]⟩⟩
theorem xO {l:List Op5} {i:Nat} (h:i<l.length):l[i]=po l i:=by simp [po,h]
theorem yE {l:List Op5} {i:Nat} {K:List T→Prop} (hi:i<l.length) (h:K (tP (po l i))):ldg (tR tP l) [] (AA (iv i)*5) [.c, .c, .c, .c, .c] K:=by rw [←xO hi] at h;exact c7 hi rfl rfl h
def an (l:List An) (i:Nat):An:=l.getD i ⟨0,0,[]⟩
def nd (l:List Nd) (i:Nat):Nd:=l.getD i ⟨false,0,0,0,0,[]⟩
theorem QD {l:List Nd} {i:Nat} (h:i<l.length):l[i]=nd l i:=by simp [nd,h]
theorem rZ {l:List Nd} {i:Nat} {K:List T→Prop} (hi:i<l.length) (h:K (tN (nd l i))):ldg (tR tN l) [] (AA (iv i)*6) [.c, .c, .c, .c, .c, .l 1] K:=by rw [←QD hi] at h;exact c7 hi rfl rfl h
theorem KI {l:List Nd} {i c:Nat} {v:Value} {K:Value→Prop} (hi:i<l.length) (hc:c<6) (hv:(tN (nd l i))[c]? =some (.c v)) (h:K v):ldc (tR tN l) [] (AA (iv i)*6+c) K:=by rw [←QD hi] at hv;exact TF hi hc hv h
theorem K2 {l:List Nd} {i:Nat} {v:Value} {K:Value→Prop} (hi:i<l.length) (hv:(tN (nd l i))[0]? =some (.c v)) (h:K v):ldc (tR tN l) [] (AA (iv i)*6) K:=by rw [←QD hi] at hv;exact T6 hi hv h
theorem HG {l:List AU} {i:Nat} (hi:i<l.length):EG (tR tO l) [AA (iv i)*8+6]=tI (ob l i).field:=by rw [←DH hi];exact cS hi (by decide) rfl
theorem NG {l:List AU} {i j:Nat} {K:Value→Prop} (hi:i<l.length) (hj:j<(ob l i).field.length) (h:K (I (gI (ob l i).field j))):ldc (tR tO l) [AA (iv i)*8+6] (AA (iv j)*1) K:=by
 rw [←DL hj] at h
 have e:=DH hi
 exact kJ hi (by decide) (ds:=tI (ob l i).field) (by rw [e];rfl) (iT hj h)
theorem XO {l:List AU} {i:Nat} {K:Value→Prop} (hi:i<l.length) (h:K (iv 0)):ldl (tR tO l) [] (AA (iv i)*8+6) 1 K:=PH hi (by decide) rfl h
theorem TG {l:List Nd} {i:Nat} (hi:i<l.length):EG (tR tN l) [AA (iv i)*6+5]=tI (nd l i).field:=by rw [←QD hi];exact cS hi (by decide) rfl
theorem p9 {l:List Nd} {i j:Nat} {K:Value→Prop} (hi:i<l.length) (hj:j<(nd l i).field.length) (h:K (I (gI (nd l i).field j))):ldc (tR tN l) [AA (iv i)*6+5] (AA (iv j)*1) K:=by
 rw [←DL hj] at h
 have e:=QD hi
 exact kJ hi (by decide) (ds:=tI (nd l i).field) (by rw [e];rfl) (iT hj h)
theorem YO {l:List Nd} {i:Nat} {K:Value→Prop} (hi:i<l.length) (h:K (iv 0)):ldl (tR tN l) [] (AA (iv i)*6+5) 1 K:=PH hi (by decide) rfl h
end Go.Proofs.Ytklmcfpgdfibnaa.Eng
