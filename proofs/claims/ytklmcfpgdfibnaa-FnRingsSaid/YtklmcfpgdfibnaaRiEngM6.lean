/- A part of the proof. -/
import Derived.Test.YtklmcfpgdfibnaaRiEngM5
import Derived.Test.YtklmcfpgdfibnaaRiEngM2
namespace Go.Proofs.Ytklmcfpgdfibnaa.Eng
open Go Go.RowKit
set_option linter.unusedVariables false
set_option linter.unusedSimpArgs false
abbrev I (n:Int):Value:= .int .i64 n
def F64 (n:Int):Prop:= -2^63≤n∧n<2^63
theorem OZ {n:Int} (h:F64 n):IntKind.i64.wrap n=n:=by
 obtain ⟨h1,h2⟩:=h
 rw [IntKind.wrap_i64];omega
theorem C4 {v:Value} {K:Value→Prop} (hp:plain v=true) (h:K v):prP (some v) K:=⟨v,rfl,hp,h⟩
theorem FZ {a b:Int} {K:Value→Prop} (hf:F64 (a+b)) (h:K (I (a+b))):prP (bnI .add (I a) (I b)) K:=C4 (v:= .int .i64 (IntKind.i64.wrap (a+b))) rfl (by rw [OZ hf];exact h)
theorem YW {a b:Int} {K:Value→Prop} (hf:F64 (a-b)) (h:K (I (a-b))):prP (bnI .sub (I a) (I b)) K:=C4 (v:= .int .i64 (IntKind.i64.wrap (a-b))) rfl (by rw [OZ hf];exact h)
theorem Y7 {a b:Int} {K:Value→Prop} (hf:F64 (a*b)) (h:K (I (a*b))):prP (bnI .mul (I a) (I b)) K:=C4 (v:= .int .i64 (IntKind.i64.wrap (a*b))) rfl (by rw [OZ hf];exact h)
theorem BE {a b:Int} {K:Value→Prop} (h:K (.bool (decide (a<b)))):prP (bnI .lss (I a) (I b)) K:=C4 rfl h
theorem IU {a b:Int} {K:Value→Prop} (h:K (.bool (decide (a≤b)))):prP (bnI .leq (I a) (I b)) K:=C4 rfl h
theorem RD {a b:Int} {K:Value→Prop} (h:K (.bool (decide (a>b)))):prP (bnI .gtr (I a) (I b)) K:=C4 rfl h
theorem Q3 {a b:Int} {K:Value→Prop} (h:K (.bool (decide (a≥b)))):prP (bnI .geq (I a) (I b)) K:=C4 rfl h
theorem rN {a b:Int} {K:Value→Prop} (h:K (.bool (a != b))):prP (bnI .neq (I a) (I b)) K:=C4 rfl h
theorem DR {b:Bool} {K:Value→Prop} (h:K (.bool !b)):prP (un .not (.bool b)) K:=C4 rfl h
theorem bI {a b:ByteArray} {K:Value→Prop} (h:K (.bool (a.toList==b.toList))):prP (bnS .eql (.string a) (.string b)) K:=C4 rfl h
theorem gR {a:ByteArray} {K:Value→Prop} (h:K (I a.size)):prP (lnS (.string a)) K:=C4 rfl h
theorem YQ {b:Bool} {p q:Prop} (h1:b=true→p) (h2:b=false→q):AW (.bool b) p q:=by
 cases b
 ·exact .inr ⟨rfl,h2 rfl⟩
 ·exact .inl ⟨rfl,h1 rfl⟩
theorem BB {c:Prop} [Decidable c] {p q:Prop} (h1:c→p) (h2: ¬c→q):AW (.bool (decide c)) p q:=
 YQ (fun h=>h1 (of_decide_eq_true h)) (fun h=>h2 (of_decide_eq_false h))
theorem nD {cs:List T} {off:Nat} {v:Value} {K:Value→Prop} (hc:cs[off]? =some (.c v)) (h:K v):ldc cs [] off K:=⟨v,by simpa [cell,node] using hc,h⟩
def tI (l:List Int):List T:=l.map fun n=> .c (I n)
def tS (l:List ByteArray):List T:=l.map fun n=> .c (.string n)
theorem AG (l:List Int):cnt 1 (tI l)=l.length:=by simp [cnt,tI]
theorem AK (l:List ByteArray):cnt 1 (tS l)=l.length:=by simp [cnt,tS]
theorem lN {l:List Int} {i:Nat} {K:Value→Prop} (hi:i<l.length) (h:K (I l[i])):ldc (tI l) [] (AD (iv i)*1) K:=
 nD (by rw [BA,Nat.mul_one];simp [tI,hi]) h
theorem l5 {l:List ByteArray} {i:Nat} {K:Value→Prop} (hi:i<l.length) (h:K (.string l[i])):ldc (tS l) [] (AD (iv i)*1) K:=
 nD (by rw [BA,Nat.mul_one];simp [tS,hi]) h
theorem vC {l:List Int} {i:Nat} {v:Int} {K:List T→Prop} (hi:i<l.length) (h:K (tI (l.set i v))):stc (tI l) [] (AD (iv i)*1) (I v) K:=by
 rw [BA,Nat.mul_one]
 refine ⟨⟨I l[i],by simp [cell,node,tI,hi]⟩, ?_⟩
 have:IH (tI l) [] i [.c (I v)]=tI (l.set i v):=by
  simp only [IH,node,GG,KC,tI,List.length_singleton]
  rw [List.set_eq_take_append_cons_drop,if_pos hi]
  simp [List.map_take,List.map_drop]
 rw [this];exact h
theorem oI {F:J2→J2} (xs:Nat→List Value) (cs:Nat→List (List T)) (n:Nat) (P:Nat→Prop) (h: ∀(R:J2) i,i≤n→P i→(i<n→P (i+1)→R (xs (i+1)) (cs (i+1)))→F R (xs i) (cs i)) {i:Nat} (hi:i≤n) (hP:P i):AZ F (xs i) (cs i):=by
 intro R hR
 obtain ⟨k,hk⟩: ∃k,n=i+k:=⟨n-i,by omega⟩
 induction k generalizing i with
 | zero=>exact hR _ _ (h R i hi hP fun hlt=>by omega)
 | succ k ih=>exact hR _ _ (h R i hi hP fun hlt hp=>ih hlt hp (by omega))
theorem BL {F:J2→J2} {xs0:List Value} {cs0:List (List T)} (xs:Nat→List Value) (cs:Nat→List (List T)) (n:Nat) (P:Nat→Prop) (hx:xs0=xs 0) (hc:cs0=cs 0) (hP:P 0) (h: ∀(R:J2) i,i≤n→P i→(i<n→P (i+1)→R (xs (i+1)) (cs (i+1)))→F R (xs i) (cs i)):AZ F xs0 cs0:=by
 subst hx;subst hc;exact oI xs cs n P h (Nat.zero_le _) hP
theorem BF {n j:Nat} {K:Value→Prop} (hj:j<n) (h:K (iv j)):ixW n (iv j) K:=⟨.i64,j,rfl,hj,h⟩
theorem A9 {j:Nat} {K:Value→Prop} (hf:(j:Int)+1<2^63) (h:K (iv (j+1))):prP (bnI .add (iv j) (I 1)) K:=FZ (a:=Int.ofNat j) ⟨by have:=Int.natCast_nonneg j;simp only [Int.ofNat_eq_natCast] at*;omega,by simpa using hf⟩ h
theorem qQ {a b:Nat} {K:Value→Prop} (h:K (.bool (decide (a<b)))):prP (bnI .lss (iv a) (iv b)) K:=BE (a:=Int.ofNat a) (b:=Int.ofNat b) (by
 have:decide (Int.ofNat a<Int.ofNat b)=decide (a<b):=by simp
 rw [this];exact h)
end Go.Proofs.Ytklmcfpgdfibnaa.Eng
namespace Go.Proofs.Ytklmcfpgdfibnaa.Eng
open Go Go.RowKit
set_option linter.unusedVariables false
set_option linter.unusedSimpArgs false
def w64 (n:Int):Int:=IntKind.i64.wrap n
theorem G9 {n:Int} (h:F64 n):w64 n=n:=OZ h
theorem KM {a b:Int} {K:Value→Prop} (h:K (I (w64 (a+b)))):prP (bnI .add (I a) (I b)) K:=C4 rfl h
theorem mG {a b:Int} {K:Value→Prop} (h:K (I (w64 (a-b)))):prP (bnI .sub (I a) (I b)) K:=C4 rfl h
theorem CT {a b:Int} {K:Value→Prop} (h:K (.bool (decide (a=b)))):prP (bnI .eql (I a) (I b)) K:=C4 rfl h
theorem DN {a b:Int} {K:Value→Prop} (h:K (.bool (decide (a≠b)))):prP (bnI .neq (I a) (I b)) K:=by
 refine rN ?_
 have:(a != b)=decide (a≠b):=by rw [Bool.eq_iff_iff];simp
 rw [this];exact h
theorem O7 {a b:Int} {K:Value→Prop} (ha:0≤a) (hb:0<b) (h:K (I (a % b))):prP (bnI .rem (I a) (I b)) K:=by
 refine ⟨.int .i64 (a.tmod b), ?_,rfl, ?_⟩
 ·simp [bnI];omega
 ·rw [Int.tmod_eq_emod_of_nonneg ha];exact h
theorem qU {a b:Int} {K:Value→Prop} (ha:0≤a) (hf:F64 a) (hb:0<b) (h:K (I (a/b))):prP (bnI .quo (I a) (I b)) K:=by
 have hd:a.tdiv b=a/b:=Int.tdiv_eq_ediv_of_nonneg ha
 have h1:0≤a/b:=Int.ediv_nonneg ha (by omega)
 have h2:a/b≤a:=Int.ediv_le_self _ ha
 refine ⟨.int .i64 (IntKind.i64.wrap (a.tdiv b)), ?_,rfl, ?_⟩
 ·simp [bnI];omega
 ·rw [hd,OZ ⟨by omega,by have:=hf.2;omega⟩];exact h
theorem HZ {c:Prop} [Decidable c] {K:Value→Prop} (h:K (.bool (decide ¬c))):prP (un .not (.bool (decide c))) K:=by
 refine DR ?_
 have:(!decide c)=decide ¬c:=by simp
 rw [this];exact h
theorem n8 {a b:ByteArray} (h:a.toList=b.toList):a=b:=by
 rw [ByteArray.toList_eq,ByteArray.toList_eq] at h
 exact ByteArray.ext (Array.ext' h)
theorem nG {a b:ByteArray} {K:Value→Prop} (h:K (.bool (decide (a=b)))):prP (bnS .eql (.string a) (.string b)) K:=by
 refine bI ?_
 have:(a.toList==b.toList)=decide (a=b):=by
  rw [Bool.eq_iff_iff,beq_iff_eq,decide_eq_true_eq];exact ⟨n8,fun h=>by rw [h]⟩
 rw [this];exact h
theorem sG {a b:Bool} {K:Value→Prop} (h:K (.bool (decide (a=b)))):prP (bnB .eql (.bool a) (.bool b)) K:=C4 (v:= .bool (a==b)) rfl (by
 have:(a==b)=decide (a=b):=by cases a <;> cases b <;> rfl
 rw [this];exact h)
theorem pN {b:Bool} {p q:Prop} (hb:b=true) (h:p):AW (.bool b) p q:= .inl ⟨by rw [hb],h⟩
theorem mD {b:Bool} {p q:Prop} (hb:b=false) (h:q):AW (.bool b) p q:= .inr ⟨by rw [hb],h⟩
theorem IY {c:Prop} [Decidable c] {p q:Prop} (hc:c) (h:p):AW (.bool (decide c)) p q:=pN (decide_eq_true hc) h
theorem HI {c:Prop} [Decidable c] {p q:Prop} (hc: ¬c) (h:q):AW (.bool (decide c)) p q:=mD (decide_eq_false hc) h
theorem B9 {b:Bool} {q:Prop} (h:q):gE (.bool b) q:=⟨rfl,h⟩
theorem NX {w a:Bool} {m:(Value→Prop)→Prop} {K:Value→Prop} (ha:a=w) (h:m K):gP (.bool a) w m K:= .inl ⟨by rw [ha],h⟩
theorem NQ {w a:Bool} {m:(Value→Prop)→Prop} {K:Value→Prop} (ha:a= !w) (h:K undef):gP (.bool a) w m K:= .inr ⟨.inl (by rw [ha]),h⟩
theorem iX {a:Bool} {m:(Value→Prop)→Prop} {K:Value→Prop} (ha:a=false) (h:K undef):gP (.bool a) true m K:=NQ ha h
theorem fQ {a:Bool} {m:(Value→Prop)→Prop} {K:Value→Prop} (ha:a=true) (h:K undef):gP (.bool a) false m K:=NQ ha h
theorem bA {m:(Value→Prop)→Prop} {K:Value→Prop} (h:m K):gP (.bool true) true m K:=NX rfl h
theorem TY {m:(Value→Prop)→Prop} {K:Value→Prop} (h:m K):gP (.bool false) false m K:=NX rfl h
theorem h9 {m:(Value→Prop)→Prop} {K:Value→Prop} (h:K undef):gP (.bool true) false m K:=NQ rfl h
theorem VZ {m:(Value→Prop)→Prop} {K:Value→Prop} (h:K undef):gP (.bool false) true m K:=NQ rfl h
theorem yF {w:Bool} {m:(Value→Prop)→Prop} {K:Value→Prop} (h:K undef):gP undef w m K:= .inr ⟨.inr rfl,h⟩
theorem gH {a:Bool} {m:(Value→Prop)→Prop} {K:Value→Prop} (h1:a=true→m K) (h2:a=false→K undef):gP (.bool a) true m K:=by
 cases a
 ·exact NQ rfl (h2 rfl)
 ·exact NX rfl (h1 rfl)
theorem o9 {a:Bool} {m:(Value→Prop)→Prop} {K:Value→Prop} (h1:a=false→m K) (h2:a=true→K undef):gP (.bool a) false m K:=by
 cases a
 ·exact NX rfl (h1 rfl)
 ·exact NQ rfl (h2 rfl)
theorem QW {c:Prop} [Decidable c] {m:(Value→Prop)→Prop} {K:Value→Prop} (h1:c→m K) (h2: ¬c→K undef):gP (.bool (decide c)) true m K:=
 gH (fun h=>h1 (of_decide_eq_true h)) fun h=>h2 (of_decide_eq_false h)
theorem S3 {c:Prop} [Decidable c] {m:(Value→Prop)→Prop} {K:Value→Prop} (h1: ¬c→m K) (h2:c→K undef):gP (.bool (decide c)) false m K:=
 o9 (fun h=>h1 (of_decide_eq_false h)) fun h=>h2 (of_decide_eq_true h)
theorem NI {c:Prop} [Decidable c] {m:(Value→Prop)→Prop} {K:Value→Prop} (hc:c) (h:m K):gP (.bool (decide c)) true m K:=NX (decide_eq_true hc) h
theorem V0 {c:Prop} [Decidable c] {m:(Value→Prop)→Prop} {K:Value→Prop} (hc: ¬c) (h:K undef):gP (.bool (decide c)) true m K:=NQ (decide_eq_false hc) h
theorem J6 {c:Prop} [Decidable c] {m:(Value→Prop)→Prop} {K:Value→Prop} (hc:c) (h:K undef):gP (.bool (decide c)) false m K:=NQ (decide_eq_true hc) h
theorem D9 {c:Prop} [Decidable c] {m:(Value→Prop)→Prop} {K:Value→Prop} (hc: ¬c) (h:m K):gP (.bool (decide c)) false m K:=NX (decide_eq_false hc) h
theorem HR {c:Prop} [Decidable c] {a b:Value} {K:Value→Prop} (hc:c) (hp:plain a=true) (h:K a):prP (pk (.bool (decide c)) a b) K:=by rw [decide_eq_true hc];exact C4 hp h
theorem F8 {c:Prop} [Decidable c] {a b:Value} {K:Value→Prop} (hc: ¬c) (hp:plain b=true) (h:K b):prP (pk (.bool (decide c)) a b) K:=by rw [decide_eq_false hc];exact C4 hp h
theorem kJ {x:Bool} {a b:Value} {K:Value→Prop} (hc:x=true) (hp:plain a=true) (h:K a):prP (pk (.bool x) a b) K:=by rw [hc];exact C4 hp h
theorem nI {x:Bool} {a b:Value} {K:Value→Prop} (hc:x=false) (hp:plain b=true) (h:K b):prP (pk (.bool x) a b) K:=by rw [hc];exact C4 hp h
theorem xO {c:Prop} [Decidable c] {a b:Value} {K:Value→Prop} (hp:plain a=true) (hq:plain b=true) (h1:c→K a) (h2: ¬c→K b):prP (pk (.bool (decide c)) a b) K:=by
 by_cases h:c
 ·exact HR h hp (h1 h)
 ·exact F8 h hq (h2 h)
theorem tL {c:Prop} [Decidable c] {v:Value} (hc:c):B2 (.bool (decide c)) true v=v:=by rw [decide_eq_true hc];rfl
theorem vT {c:Prop} [Decidable c] {v:Value} (hc: ¬c):B2 (.bool (decide c)) false v=v:=by rw [decide_eq_false hc];rfl
theorem pG {c:Prop} [Decidable c] {v:Value} (hc:c):B2 (.bool (decide c)) false v=undef:=by rw [decide_eq_true hc];rfl
theorem qG {c:Prop} [Decidable c] {v:Value} (hc: ¬c):B2 (.bool (decide c)) true v=undef:=by rw [decide_eq_false hc];rfl
theorem wA {a:Bool} {v:Value} (h:a=false):B2 (.bool a) false v=v:=by rw [h];rfl
theorem W6 {g b:Bool} {w:Bool} {q:Prop} (h:q):gE (B2 (.bool g) w (.bool b)) q:=by cases g <;> cases w <;> exact ⟨rfl,h⟩
theorem sN {g:Bool} {w:Bool} {q:Prop} (h:q):gE (B2 (.bool g) w undef) q:=by cases g <;> cases w <;> exact ⟨rfl,h⟩
theorem yE {c:Prop} [Decidable c] {w:Bool} {v:Value} {m:(Value→Prop)→Prop} {K:Value→Prop} (hc:c) (h:gP v w m K):gP (B2 (.bool (decide c)) true v) w m K:=by rw [tL hc];exact h
theorem wJ {c:Prop} [Decidable c] {w:Bool} {v:Value} {m:(Value→Prop)→Prop} {K:Value→Prop} (hc: ¬c) (h:K undef):gP (B2 (.bool (decide c)) true v) w m K:=by rw [qG hc];exact yF h
theorem UW {c:Prop} [Decidable c] {w:Bool} {v:Value} {m:(Value→Prop)→Prop} {K:Value→Prop} (hc: ¬c) (h:gP v w m K):gP (B2 (.bool (decide c)) false v) w m K:=by rw [vT hc];exact h
theorem X4 {c:Prop} [Decidable c] {w:Bool} {v:Value} {m:(Value→Prop)→Prop} {K:Value→Prop} (hc:c) (h:K undef):gP (B2 (.bool (decide c)) false v) w m K:=by rw [pG hc];exact yF h
theorem vJ {c:Bool} {w:Bool} {v:Value} {m:(Value→Prop)→Prop} {K:Value→Prop} (hc:c=false) (h:gP v w m K):gP (B2 (.bool c) false v) w m K:=by rw [wA hc];exact h
theorem nK {c:Prop} [Decidable c] {w:Bool} {v:Value} {m:(Value→Prop)→Prop} {K:Value→Prop} (h1: ¬c→gP v w m K) (h2:c→K undef):gP (B2 (.bool (decide c)) false v) w m K:=by
 by_cases hc:c
 ·exact X4 hc (h2 hc)
 ·exact UW hc (h1 hc)
theorem dI {w:Bool} {v:Value} {m:(Value→Prop)→Prop} {K:Value→Prop} (h:gP v w m K):gP (B2 (.bool false) false v) w m K:=vJ rfl h
theorem CV {p q:Prop} (h:p):AW (.bool true) p q:= .inl ⟨rfl,h⟩
theorem C7 {p q:Prop} (h:q):AW (.bool false) p q:= .inr ⟨rfl,h⟩
theorem lO {a b:Value} {K:Value→Prop} (hp:plain a=true) (h:K a):prP (pk (.bool true) a b) K:=C4 hp h
theorem X8 {a b:Value} {K:Value→Prop} (hp:plain b=true) (h:K b):prP (pk (.bool false) a b) K:=C4 hp h
theorem BP {a:Value} {l:List Value}:nx (a::l) 0=a:=rfl
theorem BU {a b:Value} {l:List Value}:nx (a::b::l) 1=b:=rfl
theorem BW {a b c:Value} {l:List Value}:nx (a::b::c::l) 2=c:=rfl
theorem BT {a b c d:Value} {l:List Value}:nx (a::b::c::d::l) 3=d:=rfl
theorem BV {a b c d e:Value} {l:List Value}:nx (a::b::c::d::e::l) 4=e:=rfl
theorem BS {a b c d e f:Value} {l:List Value}:nx (a::b::c::d::e::f::l) 5=f:=rfl
theorem BQ {a b c d e f g:Value} {l:List Value}:nx (a::b::c::d::e::f::g::l) 6=g:=rfl
theorem AY {a:List T} {l:List (List T)}:nxc (a::l) 0=a:=rfl
theorem A6 {a b:List T} {l:List (List T)}:nxc (a::b::l) 1=b:=rfl
theorem A7 {a b c:List T} {l:List (List T)}:nxc (a::b::c::l) 2=c:=rfl
theorem A4 {a b c d:List T} {l:List (List T)}:nxc (a::b::c::d::l) 3=d:=rfl
theorem A5 {a b c d e:List T} {l:List (List T)}:nxc (a::b::c::d::e::l) 4=e:=rfl
theorem A8 {a b c d e f:List T} {l:List (List T)}:nxc (a::b::c::d::e::f::l) 5=f:=rfl
theorem AI {a:T}:cnt 1 [a]=1:=rfl
theorem AR:cnt 1 []=0:=rfl
theorem AT {a b:T}:cnt 2 [a,b]=1:=by simp [cnt]
theorem AU {a b c:T}:cnt 3 [a,b,c]=1:=by simp [cnt]
theorem AM {a b c d e:T}:cnt 5 [a,b,c,d,e]=1:=by simp [cnt]
theorem AL {a b c d e f:T}:cnt 6 [a,b,c,d,e,f]=1:=by simp [cnt]
theorem AP {a b c d e f g h:T}:cnt 8 [a,b,c,d,e,f,g,h]=1:=by simp [cnt]
theorem GH {c:List T} {n m b:Nat} {q:Prop} (hf:flat c=true) (hn:(n+m)*b≤2^47) (h:q):apW c true n m b q:=⟨fun _=>hf,hn,h⟩
theorem XC {c:List T} {n m b:Nat} {q:Prop} (hn:(n+m)*b≤2^47) (h:q):apW c false n m b q:=⟨fun hx=>(by cases hx),hn,h⟩
theorem TT (l:List Int):flat (tI l)=true:=by simp [flat,tI,isC]
theorem X1 (l:List ByteArray):flat (tS l)=true:=by simp [flat,tS,isC]
theorem gK {n:Nat} {a:Int} {K:Value→Prop} (h0:0≤a) (h1:a<n) (h:K (iv a.toNat)):ixW n (I a) K:=
 ⟨.i64,a.toNat,by rw [Int.ofNat_eq_natCast,Int.toNat_of_nonneg h0],by omega,h⟩
theorem DB {f:J2} {g:J2→Prop} (h:g f):BJ f g:=h
theorem IX {α:Type} {F:J2→J2} {xs0:List Value} {cs0:List (List T)} (xs:α→List Value) (cs:α→List (List T)) (μ:α→Nat) (P:α→Prop) (a:α) (hx:xs0=xs a) (hc:cs0=cs a) (hP:P a)
  (h: ∀(R:J2) a,P a→(∀b,P b→μ b<μ a→R (xs b) (cs b))→F R (xs a) (cs a)):AZ F xs0 cs0:=by
 subst hx;subst hc
 intro R hR
 have: ∀k a,μ a<k→P a→R (xs a) (cs a):=by
  intro k
  induction k with
  | zero=>intro a hk _;omega
  | succ k ih=>intro a hk hp;exact hR _ _ (h R a hp fun b hb hlt=>ih b (by omega) hb)
 exact this _ a (Nat.lt_succ_self _) hP
def tR {α:Type} (f:α→List T) (l:List α):List T:=l.flatMap f
class Rw {α:Type} (f:α→List T) (e:outParam Nat):Prop where
 pos:1<e
 len: ∀x,(f x).length=e
section
variable {α:Type} {f:α→List T} {e:Nat}
theorem vS:tR f []=[]:=rfl
theorem LF (x:α) (l:List α):tR f (x::l)=f x++tR f l:=rfl
theorem uC (l m:List α):tR f (l++m)=tR f l++tR f m:=by simp [tR]
theorem MV (l:List α) (x:α):tR f l++f x=tR f (l++[x]):=by simp [tR]
theorem X3 [hr:Rw f e] (l:List α):(tR f l).length=l.length*e:=by
 induction l with
 | nil=>simp [tR]
 | cons x l ih=>rw [LF,List.length_append,ih,hr.len,List.length_cons,Nat.add_mul];omega
theorem SF [hr:Rw f e] (l:List α):cnt e (tR f l)=l.length:=by
 have hp:=hr.pos
 have:cnt e (tR f l)=(tR f l).length/e:=by
  match e,hp with
  | k+2,_=>rfl
 rw [this,X3,Nat.mul_div_cancel _ (by omega)]
theorem PA [hr:Rw f e]: ∀{l:List α} {i:Nat} (hi:i<l.length) {c:Nat},c<e→(tR f l)[i*e+c]? =(f l[i])[c]?
 | x::l,0,hi,c,hc=>by
   rw [LF,Nat.zero_mul,Nat.zero_add,List.getElem?_append_left (by rw [hr.len];exact hc)];rfl
 | x::l,i+1,hi,c,hc=>by
   have h1:i<l.length:=by simpa using hi
   rw [LF,List.getElem?_append_right (by rw [hr.len,Nat.add_mul];omega),hr.len]
   have:(i+1)*e+c-e=i*e+c:=by rw [Nat.add_mul];omega
   rw [this,PA h1 hc];rfl
theorem YV [hr:Rw f e]: ∀(l:List α) (i:Nat),(tR f l).drop (i*e)=tR f (l.drop i)
 | l,0=>by simp
 | [],i+1=>by simp [tR]
 | x::l,i+1=>by
   rw [LF,List.drop_succ_cons, ←YV l i]
   have:(i+1)*e=(f x).length+i*e:=by rw [Nat.add_mul,hr.len];omega
   rw [this,List.drop_append,List.drop_of_length_le (by omega)]
   simp
theorem TL [hr:Rw f e]: ∀(l:List α) (i:Nat),(tR f l).take (i*e)=tR f (l.take i)
 | l,0=>by simp [tR]
 | [],i+1=>by simp [tR]
 | x::l,i+1=>by
   rw [LF,List.take_succ_cons,LF, ←TL l i]
   have:(i+1)*e=(f x).length+i*e:=by rw [Nat.add_mul,hr.len];omega
   rw [this,List.take_append,List.take_of_length_le (by omega)]
   simp
theorem oZ [hr:Rw f e] {l:List α} {i:Nat} (hi:i<l.length):((tR f l).drop (i*e)).take e=f l[i]:=by
 have h1:=TL (f:=f) (l.drop i) 1
 rw [Nat.one_mul] at h1
 rw [YV,h1,List.drop_eq_getElem_cons hi,List.take_succ_cons,List.take_zero,LF,vS,List.append_nil]
theorem oS [hr:Rw f e] {l:List α} {i:Nat} (hi:i<l.length) (y:α):KC (tR f l) (i*e) (f y)=tR f (l.set i y):=by
 have h1:i*e+e=(i+1)*e:=by rw [Nat.add_mul];omega
 rw [KC,hr.len,h1,TL,YV,List.set_eq_take_append_cons_drop,if_pos hi,uC,LF]
theorem nF [hr:Rw f e] {l:List α} {i:Nat} (hi:i<l.length) {c:Nat} (hc:c<e) {t:T} {y:α} (hy:f y=(f l[i]).set c t):(tR f l).set (i*e+c) t=tR f (l.set i y):=by
 rw [←oS (f:=f) hi y,hy,KC,List.length_set,hr.len]
 have h0:tR f l=(tR f l).take (i*e)++(f l[i]++(tR f l).drop (i*e+e)):=by
  rw [←oZ (f:=f) hi, ←List.drop_drop,List.take_append_drop,List.take_append_drop]
 have h1:((tR f l).take (i*e)).length=i*e:=by
  rw [TL,X3,List.length_take];congr 1;omega
 conv=>lhs;rw [h0]
 rw [List.set_append_right _ _ (by rw [h1];omega),h1,Nat.add_sub_cancel_left,List.set_append_left _ _ (by rw [hr.len];exact hc)]
theorem aL {ds:List T} {off:Nat} {t:T} (h:off<ds.length):KC ds off [t]=ds.set off t:=by
 rw [KC,List.length_singleton,List.set_eq_take_append_cons_drop,if_pos h];rfl
theorem UL [hr:Rw f e] {l:List α} {i:Nat} (hi:i<l.length) {c:Nat} {v:Value} {K:Value→Prop} (hc:c<e) (hv:(f l[i])[c]? =some (.c v)) (h:K v):ldc (tR f l) [] (AD (iv i)*e+c) K:=by
 rw [BA];exact ⟨v,by simp only [cell,node,Option.bind_some];rw [PA hi hc];exact hv,h⟩
theorem ZQ [hr:Rw f e] {l:List α} {i:Nat} (hi:i<l.length) {v:Value} {K:Value→Prop} (hv:(f l[i])[0]? =some (.c v)) (h:K v):ldc (tR f l) [] (AD (iv i)*e) K:=
 UL hi (c:=0) (by have:=hr.pos;omega) hv h
theorem ZL [hr:Rw f e] {l:List α} {i:Nat} (hi:i<l.length) {c e':Nat} {ds:List T} {K:Value→Prop} (hc:c<e) (hv:(f l[i])[c]? =some (.l e' ds)) (h:K (iv 0)):ldl (tR f l) [] (AD (iv i)*e+c) e' K:=by
 rw [BA];exact ⟨⟨ds,by simp only [cell,node,Option.bind_some];rw [PA hi hc];exact hv⟩,h⟩
theorem eJ [hr:Rw f e] {l:List α} {i:Nat} (hi:i<l.length) {ks:List CK} {K:List T→Prop} (hn:ks.length=e) (hk:J0 ks (f l[i])=true) (h:K (f l[i])):ldg (tR f l) [] (AD (iv i)*e) ks K:=by
 refine ⟨f l[i], ?_,hk,h⟩
 rw [BA,hn];simp only [I2,node];exact oZ hi
theorem ZE [hr:Rw f e] {l:List α} {i:Nat} (hi:i<l.length) {c e':Nat} {ds:List T} {pre:List Nat} (hc:c<e) (hv:(f l[i])[c]? =some (.l e' ds)):node (tR f l) ((AD (iv i)*e+c)::pre)=node ds pre:=by
 rw [BA];simp only [node,PA hi hc,hv]
theorem iJ [hr:Rw f e] {l:List α} {i:Nat} (hi:i<l.length) {c e':Nat} {ds:List T} (hc:c<e) (hv:(f l[i])[c]? =some (.l e' ds)):HX (tR f l) [AD (iv i)*e+c]=ds:=by
 have h:=ZE hi hc hv (pre:=[])
 simp only [HX,h];rfl
theorem qD [hr:Rw f e] {l:List α} {i:Nat} (hi:i<l.length) {c e' off:Nat} {ds:List T} {K:Value→Prop} (hc:c<e) (hv:(f l[i])[c]? =some (.l e' ds)) (h:ldc ds [] off K):ldc (tR f l) [AD (iv i)*e+c] off K:=by
 obtain ⟨v,h1,h2⟩:=h
 have h3:=ZE hi hc hv (pre:=[])
 refine ⟨v, ?_,h2⟩
 unfold cell at h1 ⊢
 rw [h3];exact h1
theorem rT [hr:Rw f e] {l:List α} {i:Nat} (hi:i<l.length) {c e':Nat} {ds ds':List T} {y:α} (hc:c<e) (hv:(f l[i])[c]? =some (.l e' ds)) (hy:f y=(f l[i]).set c (.l e' ds')):GG (tR f l) [AD (iv i)*e+c] ds'=tR f (l.set i y):=by
 rw [BA]
 simp only [GG,PA hi hc,hv]
 exact nF hi hc hy
theorem YG [hr:Rw f e] {l:List α} {i:Nat} (hi:i<l.length) {c:Nat} {v w:Value} {y:α} {K:List T→Prop} (hc:c<e) (hv:(f l[i])[c]? =some (.c w)) (hy:f y=(f l[i]).set c (.c v)) (h:K (tR f (l.set i y))):stc (tR f l) [] (AD (iv i)*e+c) v K:=by
 rw [BA]
 have hlt:i*e+c<(tR f l).length:=by
  rw [X3]
  have:(i+1)*e≤l.length*e:=Nat.mul_le_mul_right _ hi
  rw [Nat.add_mul] at this;omega
 refine ⟨⟨w,by simp only [cell,node,Option.bind_some];rw [PA hi hc];exact hv⟩, ?_⟩
 have:IH (tR f l) [] (i*e+c) [.c v]=tR f (l.set i y):=by
  simp only [IH,node,GG]
  rw [aL hlt,nF hi hc hy]
 rw [this];exact h
theorem qJ [hr:Rw f e] {l:List α} {i:Nat} (hi:i<l.length) {c e' off:Nat} {v w:Value} {ds:List T} {y:α} {K:List T→Prop} (hc:c<e) (hv:(f l[i])[c]? =some (.l e' ds)) (hw:ds[off]? =some (.c w)) (hy:f y=(f l[i]).set c (.l e' (ds.set off (.c v)))) (h:K (tR f (l.set i y))):stc (tR f l) [AD (iv i)*e+c] off v K:=by
 have hlt:off<ds.length:=(List.getElem?_eq_some_iff.1 hw).1
 have h3:node (tR f l) [AD (iv i)*e+c]=some ds:=ZE hi hc hv (pre:=[])
 refine ⟨⟨w,by unfold cell;rw [h3];exact hw⟩, ?_⟩
 have:IH (tR f l) [AD (iv i)*e+c] off [.c v]=tR f (l.set i y):=by
  unfold IH
  rw [h3]
  simp only
  rw [aL hlt,rT hi hc hv hy]
 rw [this];exact h
theorem R9 [hr:Rw f e] {l:List α} {i:Nat} (hi:i<l.length) {ts:List T} {y:α} {K:List T→Prop} (hy:ts=f y) (h:K (tR f (l.set i y))):stg (tR f l) [] (AD (iv i)*e) ts K:=by
 subst hy
 rw [BA]
 refine ⟨⟨_,rfl, ?_⟩, ?_⟩
 ·rw [hr.len,X3]
  have:(i+1)*e≤l.length*e:=Nat.mul_le_mul_right _ hi
  rw [Nat.add_mul] at this;omega
 ·have:IH (tR f l) [] (i*e) (f y)=tR f (l.set i y):=by
   simp only [IH,node,GG];exact oS hi y
  rw [this];exact h
theorem fV [hr:Rw f e] {cur:List α} {i:Nat} (hi:i<cur.length) {y y':α} {c:Nat} {v w:Value} {K:List T→Prop} (hc:c<e) (hv:(f y)[c]? =some (.c w)) (hy:f y'=(f y).set c (.c v)) (h:K (tR f (cur.set i y'))):stc (tR f (cur.set i y)) [] (AD (iv i)*e+c) v K:=
 YG (l:=cur.set i y) (by simpa using hi) (y:=y') hc (by rw [List.getElem_set_self];exact hv) (by rw [List.getElem_set_self];exact hy) (by rw [List.set_set];exact h)
theorem mA [hr:Rw f e] {cur:List α} {i:Nat} (hi:i<cur.length) {y:α} {c e':Nat} {ds:List T} (hc:c<e) (hv:(f y)[c]? =some (.l e' ds)):HX (tR f (cur.set i y)) [AD (iv i)*e+c]=ds:=
 iJ (l:=cur.set i y) (by simpa using hi) hc (by rw [List.getElem_set_self];exact hv)
theorem qI [hr:Rw f e] {cur:List α} {i:Nat} (hi:i<cur.length) {y:α} {c e':Nat} {ds:List T} {K:Value→Prop} (hc:c<e) (hv:(f y)[c]? =some (.l e' ds)) (h:K (iv 0)):ldl (tR f (cur.set i y)) [] (AD (iv i)*e+c) e' K:=
 ZL (l:=cur.set i y) (by simpa using hi) hc (by rw [List.getElem_set_self];exact hv) h
theorem JJ [hr:Rw f e] {cur:List α} {i:Nat} (hi:i<cur.length) {y:α} {c:Nat} {v:Value} {K:Value→Prop} (hc:c<e) (hv:(f y)[c]? =some (.c v)) (h:K v):ldc (tR f (cur.set i y)) [] (AD (iv i)*e+c) K:=
 UL (l:=cur.set i y) (by simpa using hi) hc (by rw [List.getElem_set_self];exact hv) h
theorem nM [hr:Rw f e] {cur:List α} {i:Nat} (hi:i<cur.length) {y:α} {v:Value} {K:Value→Prop} (hv:(f y)[0]? =some (.c v)) (h:K v):ldc (tR f (cur.set i y)) [] (AD (iv i)*e) K:=
 JJ hi (c:=0) (by have:=hr.pos;omega) hv h
theorem rV {cur:List α} {i:Nat} (hi:i<cur.length):tR f cur=tR f (cur.set i cur[i]):=by rw [List.set_getElem_self]
theorem qM (n:Nat) (x:α):VT n (f x)=tR f (List.replicate n x):=by
 simp only [VT,tR]
 induction n with
 | zero=>rfl
 | succ n ih=>rw [List.replicate_succ,List.replicate_succ,List.flatten_cons,List.flatMap_cons,ih]
end
theorem F4 (l:List Int) (n:Int):tI l++[T.c (I n)]=tI (l++[n]):=by simp [tI]
theorem qC (l:List ByteArray) (n:ByteArray):tS l++[T.c (.string n)]=tS (l++[n]):=by simp [tS]
theorem dY {l:List Int} {j:Nat} (hj:j<l.length):(tI l)[j]? =some (.c (I l[j])):=by simp [tI,hj]
theorem tK {l:List Int} {j:Nat} {v:Int}:(tI l).set j (.c (I v))=tI (l.set j v):=by simp [tI,List.map_set]
end Go.Proofs.Ytklmcfpgdfibnaa.Eng
namespace Go.Proofs.Ytklmcfpgdfibnaa.Eng
open Go Go.RowKit
set_option linter.unusedVariables false
def Rdt {α:Type} (d:Kind α) (t:α→List T):Prop:=(∀x,(t x).length=d.sz)∧ ∀s x cs,d.E s x cs→ ∃F,TRs s false (t x) cs F
theorem vQ:Rdt (uD .u8) fun n=>[.c (.int .u8 n)]:=⟨fun _=>rfl,fun s x cs h=>⟨[],by subst h;simp [TRs,TR,plain]⟩⟩
theorem fR {α:Type} {d:Kind α} {t:α→List T} (hd:Rdt d t) {s:St}: ∀(xs:List α) (cells:List Value),cells.length=xs.length*d.sz→(∀(i:Nat) x,xs[i]? =some x→d.E s x ((cells.drop (i*d.sz)).take d.sz))→ ∃F,TRs s false (xs.flatMap t) cells F
 | [],cells,hl,_=>⟨[],by
     have:cells=[]:=List.length_eq_zero_iff.1 (by simpa using hl)
     subst this;simp [TRs]⟩
 | x::xs,cells,hl,h=>by
   have h0:=h 0 x rfl
   rw [Nat.zero_mul,List.drop_zero] at h0
   obtain ⟨F1,g1⟩:=hd.2 s x _ h0
   rw [List.length_cons,Nat.add_mul,Nat.one_mul] at hl
   obtain ⟨F2,g2⟩:=fR hd xs (cells.drop d.sz) (by rw [List.length_drop];omega) (fun i y hy=>by
    have:=h (i+1) y (by simpa using hy)
    rwa [Nat.add_mul,Nat.one_mul,Nat.add_comm, ←List.drop_drop] at this)
   refine ⟨F1++F2, ?_⟩
   rw [List.flatMap_cons]
   exact KA.2 ⟨cells.take d.sz,cells.drop d.sz,F1,F2,(List.take_append_drop _ _).symm,g1,g2,rfl⟩
theorem SP {α:Type} {t:α→List T} {n:Nat} (h: ∀x,(t x).length=n): ∀xs:List α,(xs.flatMap t).length=xs.length*n
 | []=>by simp
 | x::xs=>by rw [List.flatMap_cons,List.length_append,h,SP h xs,List.length_cons,Nat.add_mul];omega
theorem uH {α:Type} {d:Kind α} {t:α→List T} {hsz:0<d.sz} (hd:Rdt d t):Rdt (kSl d hsz) fun xs=>[.l d.sz (xs.flatMap t)]:=
 ⟨fun _=>rfl,fun s xs cs ⟨v,h,cells,⟨h1,h2⟩,h3⟩=>by
  subst h
  obtain ⟨F,hF⟩:=fR hd xs cells h1 h3
  have hlen:=SP hd.1 xs
  rcases h2 with ⟨rfl,h0⟩ | ⟨b,off,ob,rfl,g1,g2,g3⟩
  ·have:xs=[]:=List.length_eq_zero_iff.1 h0
   subst this
   exact ⟨[],GK.2 ⟨nl,rfl,by simp [TR]⟩⟩
  ·refine ⟨b::F,GK.2 ⟨_,rfl,GD.2 (.inr ⟨b,off,xs.length,rfl,hlen,ob,F,g1,fun h=>(by cases h),by rw [hlen];exact g2, ?_,rfl⟩)⟩⟩
   rw [hlen,g3];exact hF⟩
theorem oM {C:Ctx} {ρ:Rho} {s:St} {f:FuncId} {g:Sg} {es args sv:List Value} {vs:List Value} {cs:List (List T)} {D:List Nat} (hr:Rel C ρ s C.w0) (ht: ∀h,s.n≤h→ρ h=none) (ha:EN (VR ρ) es args) (hp:NU s g.ps es vs cs sv [] D) (hg:g.rs=[(0,[.v])])
  (h:cl2 C f g vs cs fun vs' _=>vs'.head?=some (.bool true)):Calls C.P f args.toArray C.w0 fun e W'=>e= .returned (.bool true)∧Below C.w0.heap.size C.w0 W':=by
 obtain ⟨v,s',M',vs',cs',⟨hn,hgo⟩,_,hres,_,_,_,hk⟩:=h s es sv [] D hp List.nodup_nil (fun x hx=>by simp at hx)
 refine Calls.mono (hgo ρ C.w0 args (fun x h1 h2=>ht x h1) hr ha) fun e W' he=> ?_
 cases e with
 | returned u=>
   obtain ⟨ρ',_,hrel,hv⟩:=he
   obtain ⟨as',v1,v2,c1,c2,c3,M1,M2,M3,e1,e2,e3,e4,e5,hV,_,_⟩:=hres.ex
   rw [hg] at hV
   simp only [WK,MP] at hV
   obtain ⟨a,as2,us,w1,w2,d1,d2,N1,N2,rfl,rfl,rfl,⟨u1,us',vs1,rfl,rfl,_,rfl,rfl,_,_⟩,⟨rfl,rfl,_,_⟩,hu,_⟩:=hV
   subst e3
   simp only [List.cons_append,List.head?_cons,Option.some.injEq] at hk
   subst hk
   simp only [List.cons.injEq,and_true] at hu
   subst hu
   rw [e1] at hv
   have:u= .bool true:=hv
   exact ⟨by rw [this],hrel.bel⟩
 | outgrown=>exact he.elim
 | panicked x=>exact he.elim
end Go.Proofs.Ytklmcfpgdfibnaa.Eng
namespace Go.Proofs.Ytklmcfpgdfibnaa.Eng
open Go Go.RowKit
set_option linter.unusedVariables false
structure AE where
 live:Bool
 gen:Int
 site:Int
 holds:Int
 roots:Int
 count:Int
 field:List Int
 purple:Bool
structure Wk where
 used:Bool
 target:Int
structure Op5 where
 kind:Int
 a:Int
 b:Int
 c:Int
 site:ByteArray
structure An where
 code:Int
 val:Int
 freed:List Int
structure Nd where
 live:Bool
 gen:Int
 site:Int
 holds:Int
 roots:Int
 field:List Int
structure Hp where
 AB:List AE
 CB:List Wk
 buffer:List Int
 sites:List ByteArray
def tO (o:AE):List T:=[.c (.bool o.live), .c (I o.gen), .c (I o.site), .c (I o.holds), .c (I o.roots), .c (I o.count), .l 1 (tI o.field), .c (.bool o.purple)]
def tW (w:Wk):List T:=[.c (.bool w.used), .c (I w.target)]
def tP (o:Op5):List T:=[.c (I o.kind), .c (I o.a), .c (I o.b), .c (I o.c), .c (.string o.site)]
def tA (a:An):List T:=[.c (I a.code), .c (I a.val), .l 1 (tI a.freed)]
def tN (n:Nd):List T:=[.c (.bool n.live), .c (I n.gen), .c (I n.site), .c (I n.holds), .c (I n.roots), .l 1 (tI n.field)]
instance rwO:Rw tO 8:=⟨by omega,fun _=>rfl⟩
instance rwW:Rw tW 2:=⟨by omega,fun _=>rfl⟩
instance rwP:Rw tP 5:=⟨by omega,fun _=>rfl⟩
instance rwA:Rw tA 3:=⟨by omega,fun _=>rfl⟩
instance rwN:Rw tN 6:=⟨by omega,fun _=>rfl⟩
theorem AJ (l:List AE):cnt 8 (tR tO l)=l.length:=SF l
theorem AO (l:List Wk):cnt 2 (tR tW l)=l.length:=SF l
theorem AS (l:List Op5):cnt 5 (tR tP l)=l.length:=SF l
theorem AN (l:List An):cnt 3 (tR tA l)=l.length:=SF l
theorem AQ (l:List Nd):cnt 6 (tR tN l)=l.length:=SF l
theorem iI (l:List AE) (x:AE):tR tO l++[T.c (.bool x.live), .c (I x.gen), .c (I x.site), .c (I x.holds), .c (I x.roots), .c (I x.count), .l 1 (tI x.field), .c (.bool x.purple)]=tR tO (l++[x]):=MV l x
theorem ZG (l:List Wk):flat (tR tW l)=true:=by
 simp only [flat,tR,List.all_flatMap,List.all_eq_true];intro x _ t ht
 simp only [tW,List.mem_cons,List.not_mem_nil,or_false] at ht
 rcases ht with rfl | rfl <;> rfl
theorem fZ (l:List Op5):flat (tR tP l)=true:=by
 simp only [flat,tR,List.all_flatMap,List.all_eq_true];intro x _ t ht
 simp only [tP,List.mem_cons,List.not_mem_nil,or_false] at ht
 rcases ht with rfl | rfl | rfl | rfl | rfl <;> rfl
section
variable {l:List AE} {i:Nat} {K:List T→Prop}
theorem kL {v:Int} (hi:i<l.length) (h:K (tR tO (l.set i {l[i] with holds:=v}))):stc (tR tO l) [] (AD (iv i)*8+3) (I v) K:=YG hi (by decide) rfl rfl h
theorem jX {j:Nat} {v:Int} (hi:i<l.length) (hj:j<l[i].field.length) (h:K (tR tO (l.set i {l[i] with field:=l[i].field.set j v}))):stc (tR tO l) [AD (iv i)*8+6] (AD (iv j)*1) (I v) K:=by
 rw [BA j,Nat.mul_one]
 exact qJ hi (by decide) rfl (dY hj) (by simp only [tK];rfl) h
end
def gI (l:List Int) (i:Nat):Int:=l.getD i 0
def gS (l:List ByteArray) (i:Nat):ByteArray:=l.getD i ⟨#[]⟩
theorem DE {l:List Int} {i:Nat} (h:i<l.length):l[i]=gI l i:=by simp [gI,h]
theorem bJ {l:List ByteArray} {i:Nat} (h:i<l.length):l[i]=gS l i:=by simp [gS,h]
theorem ldI {l:List Int} {i:Nat} {K:Value→Prop} (hi:i<l.length) (h:K (I (gI l i))):ldc (tI l) [] (AD (iv i)*1) K:=by rw [←DE hi] at h;exact lN hi h
theorem ldS {l:List ByteArray} {i:Nat} {K:Value→Prop} (hi:i<l.length) (h:K (.string (gS l i))):ldc (tS l) [] (AD (iv i)*1) K:=by rw [←bJ hi] at h;exact l5 hi h
def ob (l:List AE) (i:Nat):AE:=l.getD i ⟨false,0,0,0,0,0,[],false⟩
theorem DQ {l:List AE} {i:Nat} (h:i<l.length):l[i]=ob l i:=by simp [ob,h]
theorem OT {l:List AE} {i:Nat} {K:List T→Prop} (hi:i<l.length) (h:K (tO (ob l i))):ldg (tR tO l) [] (AD (iv i)*8) [.c, .c, .c, .c, .c, .c, .l 1, .c] K:=by rw [←DQ hi] at h;exact eJ hi rfl rfl h
theorem JX {l:List AE} {i c:Nat} {v:Value} {K:Value→Prop} (hi:i<l.length) (hc:c<8) (hv:(tO (ob l i))[c]? =some (.c v)) (h:K v):ldc (tR tO l) [] (AD (iv i)*8+c) K:=by rw [←DQ hi] at hv;exact UL hi hc hv h
theorem fL {l:List AE} {i:Nat} {v:Value} {K:Value→Prop} (hi:i<l.length) (hv:(tO (ob l i))[0]? =some (.c v)) (h:K v):ldc (tR tO l) [] (AD (iv i)*8) K:=by rw [←DQ hi] at hv;exact ZQ hi hv h
def wk (l:List Wk) (i:Nat):Wk:=l.getD i ⟨false,0⟩
theorem cG {l:List Wk} {i:Nat} (h:i<l.length):l[i]=wk l i:=by simp [wk,h]
theorem nH {l:List Wk} {i:Nat} {K:List T→Prop} (hi:i<l.length) (h:K (tW (wk l i))):ldg (tR tW l) [] (AD (iv i)*2) [.c, .c] K:=by rw [←cG hi] at h;exact eJ hi rfl rfl h
theorem vB {l:List Wk} {i c:Nat} {v:Value} {K:Value→Prop} (hi:i<l.length) (hc:c<2) (hv:(tW (wk l i))[c]? =some (.c v)) (h:K v):ldc (tR tW l) [] (AD (iv i)*2+c) K:=by rw [←cG hi] at hv;exact UL hi hc hv h
theorem gX {l:List Wk} {i:Nat} {v:Value} {K:Value→Prop} (hi:i<l.length) (hv:(tW (wk l i))[0]? =some (.c v)) (h:K v):ldc (tR tW l) [] (AD (iv i)*2) K:=by rw [←cG hi] at hv;exact ZQ hi hv h
def po (l:List Op5) (i:Nat):Op5:=l.getD i ⟨0,0,0,0,⟨#[]⟩⟩
theorem sY {l:List Op5} {i:Nat} (h:i<l.length):l[i]=po l i:=by simp [po,h]
theorem uO {l:List Op5} {i:Nat} {K:List T→Prop} (hi:i<l.length) (h:K (tP (po l i))):ldg (tR tP l) [] (AD (iv i)*5) [.c, .c, .c, .c, .c] K:=by rw [←sY hi] at h;exact eJ hi rfl rfl h
def an (l:List An) (i:Nat):An:=l.getD i ⟨0,0,[]⟩
def nd (l:List Nd) (i:Nat):Nd:=l.getD i ⟨false,0,0,0,0,[]⟩
theorem sP {l:List Nd} {i:Nat} (h:i<l.length):l[i]=nd l i:=by simp [nd,h]
theorem MW {l:List AE} {i:Nat} (hi:i<l.length):HX (tR tO l) [AD (iv i)*8+6]=tI (ob l i).field:=by rw [←DQ hi];exact iJ hi (by decide) rfl
theorem VL {l:List AE} {i j:Nat} {K:Value→Prop} (hi:i<l.length) (hj:j<(ob l i).field.length) (h:K (I (gI (ob l i).field j))):ldc (tR tO l) [AD (iv i)*8+6] (AD (iv j)*1) K:=by
 rw [←DE hj] at h
 have e:=DQ hi
 exact qD hi (by decide) (ds:=tI (ob l i).field) (by rw [e];rfl) (lN hj h)
theorem vO {l:List AE} {i:Nat} {K:Value→Prop} (hi:i<l.length) (h:K (iv 0)):ldl (tR tO l) [] (AD (iv i)*8+6) 1 K:=ZL hi (by decide) rfl h
end Go.Proofs.Ytklmcfpgdfibnaa.Eng
