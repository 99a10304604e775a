/- A part of the proof. -/
import Derived.Test.YtklmcfpgdfibnaaLeEngM5
import Derived.Test.YtklmcfpgdfibnaaLeEngM2
namespace Go.Proofs.Ytklmcfpgdfibnaa.Eng
open Go Go.RowKit
set_option linter.unusedVariables false
set_option linter.unusedSimpArgs false
abbrev I (n:Int):Value:= .int .i64 n
def F64 (n:Int):Prop:= -2^63≤n∧n<2^63
theorem NI {n:Int} (h:F64 n):IntKind.i64.wrap n=n:=by
 obtain ⟨h1,h2⟩:=h
 rw [IntKind.wrap_i64];omega
theorem CJ {v:Value} {K:Value→Prop} (hp:plain v=true) (h:K v):prP (some v) K:=⟨v,rfl,hp,h⟩
theorem EB {a b:Int} {K:Value→Prop} (hf:F64 (a+b)) (h:K (I (a+b))):prP (bnI .add (I a) (I b)) K:=CJ (v:= .int .i64 (IntKind.i64.wrap (a+b))) rfl (by rw [NI hf];exact h)
theorem F8 {a b:Int} {K:Value→Prop} (hf:F64 (a-b)) (h:K (I (a-b))):prP (bnI .sub (I a) (I b)) K:=CJ (v:= .int .i64 (IntKind.i64.wrap (a-b))) rfl (by rw [NI hf];exact h)
theorem UI {a b:Int} {K:Value→Prop} (hf:F64 (a*b)) (h:K (I (a*b))):prP (bnI .mul (I a) (I b)) K:=CJ (v:= .int .i64 (IntKind.i64.wrap (a*b))) rfl (by rw [NI hf];exact h)
theorem A4 {a b:Int} {K:Value→Prop} (h:K (.bool (decide (a<b)))):prP (bnI .lss (I a) (I b)) K:=CJ rfl h
theorem KO {a b:Int} {K:Value→Prop} (h:K (.bool (decide (a≤b)))):prP (bnI .leq (I a) (I b)) K:=CJ rfl h
theorem KJ {a b:Int} {K:Value→Prop} (h:K (.bool (decide (a>b)))):prP (bnI .gtr (I a) (I b)) K:=CJ rfl h
theorem O7 {a b:Int} {K:Value→Prop} (h:K (.bool (decide (a≥b)))):prP (bnI .geq (I a) (I b)) K:=CJ rfl h
theorem rY {a b:Int} {K:Value→Prop} (h:K (.bool (a != b))):prP (bnI .neq (I a) (I b)) K:=CJ rfl h
theorem EJ {b:Bool} {K:Value→Prop} (h:K (.bool !b)):prP (un .not (.bool b)) K:=CJ rfl h
theorem nL {a b:ByteArray} {K:Value→Prop} (h:K (.bool (a.toList==b.toList))):prP (bnS .eql (.string a) (.string b)) K:=CJ rfl h
theorem pW {a b:ByteArray} {K:Value→Prop} (h:K (.bool !(a.toList==b.toList))):prP (bnS .neq (.string a) (.string b)) K:=CJ rfl h
theorem iM {a:ByteArray} {K:Value→Prop} (h:K (I a.size)):prP (lnS (.string a)) K:=CJ rfl h
theorem aP {b:Bool} {p q:Prop} (h1:b=true→p) (h2:b=false→q):AJ (.bool b) p q:=by
 cases b
 ·exact .inr ⟨rfl,h2 rfl⟩
 ·exact .inl ⟨rfl,h1 rfl⟩
theorem AY {c:Prop} [Decidable c] {p q:Prop} (h1:c→p) (h2: ¬c→q):AJ (.bool (decide c)) p q:=
 aP (fun h=>h1 (of_decide_eq_true h)) (fun h=>h2 (of_decide_eq_false h))
theorem p6 {cs:List T} {off:Nat} {v:Value} {K:Value→Prop} (hc:cs[off]? =some (.c v)) (h:K v):ldc cs [] off K:=⟨v,by simpa [cell,node] using hc,h⟩
def tI (l:List Int):List T:=l.map fun n=> .c (I n)
def tS (l:List ByteArray):List T:=l.map fun n=> .c (.string n)
theorem AH (l:List Int):cnt 1 (tI l)=l.length:=by simp [cnt,tI]
theorem AL (l:List ByteArray):cnt 1 (tS l)=l.length:=by simp [cnt,tS]
theorem eF {l:List Int} {i:Nat} {K:Value→Prop} (hi:i<l.length) (h:K (I l[i])):ldc (tI l) [] (AB (iv i)*1) K:=
 p6 (by rw [AX,Nat.mul_one];simp [tI,hi]) h
theorem vR {l:List ByteArray} {i:Nat} {K:Value→Prop} (hi:i<l.length) (h:K (.string l[i])):ldc (tS l) [] (AB (iv i)*1) K:=
 p6 (by rw [AX,Nat.mul_one];simp [tS,hi]) h
theorem wW {l:List Int} {i:Nat} {v:Int} {K:List T→Prop} (hi:i<l.length) (h:K (tI (l.set i v))):stc (tI l) [] (AB (iv i)*1) (I v) K:=by
 rw [AX,Nat.mul_one]
 refine ⟨⟨I l[i],by simp [cell,node,tI,hi]⟩, ?_⟩
 have:I1 (tI l) [] i [.c (I v)]=tI (l.set i v):=by
  simp only [I1,node,GM,KN,tI,List.length_singleton]
  rw [List.set_eq_take_append_cons_drop,if_pos hi]
  simp [List.map_take,List.map_drop]
 rw [this];exact h
theorem qT {F:J2→J2} (xs:Nat→List Value) (cs:Nat→List (List T)) (n:Nat) (P:Nat→Prop) (h: ∀(R:J2) i,i≤n→P i→(i<n→P (i+1)→R (xs (i+1)) (cs (i+1)))→F R (xs i) (cs i)) {i:Nat} (hi:i≤n) (hP:P i):A6 F (xs i) (cs i):=by
 intro R hR
 obtain ⟨k,hk⟩: ∃k,n=i+k:=⟨n-i,by omega⟩
 induction k generalizing i with
 | zero=>exact hR _ _ (h R i hi hP fun hlt=>by omega)
 | succ k ih=>exact hR _ _ (h R i hi hP fun hlt hp=>ih hlt hp (by omega))
theorem BK {F:J2→J2} {xs0:List Value} {cs0:List (List T)} (xs:Nat→List Value) (cs:Nat→List (List T)) (n:Nat) (P:Nat→Prop) (hx:xs0=xs 0) (hc:cs0=cs 0) (hP:P 0) (h: ∀(R:J2) i,i≤n→P i→(i<n→P (i+1)→R (xs (i+1)) (cs (i+1)))→F R (xs i) (cs i)):A6 F xs0 cs0:=by
 subst hx;subst hc;exact qT xs cs n P h (Nat.zero_le _) hP
theorem AG {n j:Nat} {K:Value→Prop} (hj:j<n) (h:K (iv j)):ixW n (iv j) K:=⟨.i64,j,rfl,hj,h⟩
theorem BD {j:Nat} {K:Value→Prop} (hf:(j:Int)+1<2^63) (h:K (iv (j+1))):prP (bnI .add (iv j) (I 1)) K:=EB (a:=Int.ofNat j) ⟨by have:=Int.natCast_nonneg j;simp only [Int.ofNat_eq_natCast] at*;omega,by simpa using hf⟩ h
end Go.Proofs.Ytklmcfpgdfibnaa.Eng
namespace Go.Proofs.Ytklmcfpgdfibnaa.Eng
open Go Go.RowKit
set_option linter.unusedVariables false
set_option linter.unusedSimpArgs false
def w64 (n:Int):Int:=IntKind.i64.wrap n
theorem H4 {n:Int} (h:F64 n):w64 n=n:=NI h
theorem I4 {a b:Int} {K:Value→Prop} (h:K (I (w64 (a+b)))):prP (bnI .add (I a) (I b)) K:=CJ rfl h
theorem dO {a b:Int} {K:Value→Prop} (h:K (I (w64 (a-b)))):prP (bnI .sub (I a) (I b)) K:=CJ rfl h
theorem BM {a b:Int} {K:Value→Prop} (h:K (.bool (decide (a=b)))):prP (bnI .eql (I a) (I b)) K:=CJ rfl h
theorem C0 {a b:Int} {K:Value→Prop} (h:K (.bool (decide (a≠b)))):prP (bnI .neq (I a) (I b)) K:=by
 refine rY ?_
 have:(a != b)=decide (a≠b):=by rw [Bool.eq_iff_iff];simp
 rw [this];exact h
theorem ZN {a b:Int} {K:Value→Prop} (ha:0≤a) (hb:0<b) (h:K (I (a % b))):prP (bnI .rem (I a) (I b)) K:=by
 refine ⟨.int .i64 (a.tmod b), ?_,rfl, ?_⟩
 ·simp [bnI];omega
 ·rw [Int.tmod_eq_emod_of_nonneg ha];exact h
theorem sE {a b:Int} {K:Value→Prop} (ha:0≤a) (hf:F64 a) (hb:0<b) (h:K (I (a/b))):prP (bnI .quo (I a) (I b)) K:=by
 have hd:a.tdiv b=a/b:=Int.tdiv_eq_ediv_of_nonneg ha
 have h1:0≤a/b:=Int.ediv_nonneg ha (by omega)
 have h2:a/b≤a:=Int.ediv_le_self _ ha
 refine ⟨.int .i64 (IntKind.i64.wrap (a.tdiv b)), ?_,rfl, ?_⟩
 ·simp [bnI];omega
 ·rw [hd,NI ⟨by omega,by have:=hf.2;omega⟩];exact h
theorem G5 {c:Prop} [Decidable c] {K:Value→Prop} (h:K (.bool (decide ¬c))):prP (un .not (.bool (decide c))) K:=by
 refine EJ ?_
 have:(!decide c)=decide ¬c:=by simp
 rw [this];exact h
theorem pF {a b:ByteArray} (h:a.toList=b.toList):a=b:=by
 rw [ByteArray.toList_eq,ByteArray.toList_eq] at h
 exact ByteArray.ext (Array.ext' h)
theorem RK {a b:ByteArray} {K:Value→Prop} (h:K (.bool (decide (a=b)))):prP (bnS .eql (.string a) (.string b)) K:=by
 refine nL ?_
 have:(a.toList==b.toList)=decide (a=b):=by
  rw [Bool.eq_iff_iff,beq_iff_eq,decide_eq_true_eq];exact ⟨pF,fun h=>by rw [h]⟩
 rw [this];exact h
theorem pB {a b:ByteArray} {K:Value→Prop} (h:K (.bool (decide (a≠b)))):prP (bnS .neq (.string a) (.string b)) K:=by
 refine pW ?_
 have:(!(a.toList==b.toList))=decide (a≠b):=by
  rw [Bool.eq_iff_iff,Bool.not_eq_true',beq_eq_false_iff_ne,decide_eq_true_eq]
  exact ⟨fun h1 h2=>h1 (by rw [h2]),fun h1 h2=>h1 (pF h2)⟩
 rw [this];exact h
theorem j7 {b:Bool} {p q:Prop} (hb:b=true) (h:p):AJ (.bool b) p q:= .inl ⟨by rw [hb],h⟩
theorem p9 {b:Bool} {p q:Prop} (hb:b=false) (h:q):AJ (.bool b) p q:= .inr ⟨by rw [hb],h⟩
theorem FQ {c:Prop} [Decidable c] {p q:Prop} (hc:c) (h:p):AJ (.bool (decide c)) p q:=j7 (decide_eq_true hc) h
theorem F9 {c:Prop} [Decidable c] {p q:Prop} (hc: ¬c) (h:q):AJ (.bool (decide c)) p q:=p9 (decide_eq_false hc) h
theorem BH {b:Bool} {q:Prop} (h:q):gE (.bool b) q:=⟨rfl,h⟩
theorem WL {w a:Bool} {m:(Value→Prop)→Prop} {K:Value→Prop} (ha:a=w) (h:m K):gP (.bool a) w m K:= .inl ⟨by rw [ha],h⟩
theorem P7 {w a:Bool} {m:(Value→Prop)→Prop} {K:Value→Prop} (ha:a= !w) (h:K undef):gP (.bool a) w m K:= .inr ⟨.inl (by rw [ha]),h⟩
theorem tL {a:Bool} {m:(Value→Prop)→Prop} {K:Value→Prop} (ha:a=true) (h:K undef):gP (.bool a) false m K:=P7 ha h
theorem GO {m:(Value→Prop)→Prop} {K:Value→Prop} (h:m K):gP (.bool true) true m K:=WL rfl h
theorem cF {m:(Value→Prop)→Prop} {K:Value→Prop} (h:m K):gP (.bool false) false m K:=WL rfl h
theorem YD {m:(Value→Prop)→Prop} {K:Value→Prop} (h:K undef):gP (.bool true) false m K:=P7 rfl h
theorem GF {m:(Value→Prop)→Prop} {K:Value→Prop} (h:K undef):gP (.bool false) true m K:=P7 rfl h
theorem Aj {w:Bool} {m:(Value→Prop)→Prop} {K:Value→Prop} (h:K undef):gP undef w m K:= .inr ⟨.inr rfl,h⟩
theorem zX {a:Bool} {m:(Value→Prop)→Prop} {K:Value→Prop} (h1:a=true→m K) (h2:a=false→K undef):gP (.bool a) true m K:=by
 cases a
 ·exact P7 rfl (h2 rfl)
 ·exact WL rfl (h1 rfl)
theorem vD {a:Bool} {m:(Value→Prop)→Prop} {K:Value→Prop} (h1:a=false→m K) (h2:a=true→K undef):gP (.bool a) false m K:=by
 cases a
 ·exact WL rfl (h1 rfl)
 ·exact P7 rfl (h2 rfl)
theorem NV {c:Prop} [Decidable c] {m:(Value→Prop)→Prop} {K:Value→Prop} (h1:c→m K) (h2: ¬c→K undef):gP (.bool (decide c)) true m K:=
 zX (fun h=>h1 (of_decide_eq_true h)) fun h=>h2 (of_decide_eq_false h)
theorem OK {c:Prop} [Decidable c] {m:(Value→Prop)→Prop} {K:Value→Prop} (h1: ¬c→m K) (h2:c→K undef):gP (.bool (decide c)) false m K:=
 vD (fun h=>h1 (of_decide_eq_false h)) fun h=>h2 (of_decide_eq_true h)
theorem PW {c:Prop} [Decidable c] {m:(Value→Prop)→Prop} {K:Value→Prop} (hc:c) (h:m K):gP (.bool (decide c)) true m K:=WL (decide_eq_true hc) h
theorem VP {c:Prop} [Decidable c] {m:(Value→Prop)→Prop} {K:Value→Prop} (hc: ¬c) (h:K undef):gP (.bool (decide c)) true m K:=P7 (decide_eq_false hc) h
theorem TD {c:Prop} [Decidable c] {m:(Value→Prop)→Prop} {K:Value→Prop} (hc:c) (h:K undef):gP (.bool (decide c)) false m K:=P7 (decide_eq_true hc) h
theorem G6 {c:Prop} [Decidable c] {m:(Value→Prop)→Prop} {K:Value→Prop} (hc: ¬c) (h:m K):gP (.bool (decide c)) false m K:=WL (decide_eq_false hc) h
theorem GC {c:Prop} [Decidable c] {a b:Value} {K:Value→Prop} (hc:c) (hp:plain a=true) (h:K a):prP (pk (.bool (decide c)) a b) K:=by rw [decide_eq_true hc];exact CJ hp h
theorem F7 {c:Prop} [Decidable c] {a b:Value} {K:Value→Prop} (hc: ¬c) (hp:plain b=true) (h:K b):prP (pk (.bool (decide c)) a b) K:=by rw [decide_eq_false hc];exact CJ hp h
theorem Aw {x:Bool} {a b:Value} {K:Value→Prop} (hc:x=true) (hp:plain a=true) (h:K a):prP (pk (.bool x) a b) K:=by rw [hc];exact CJ hp h
theorem Aq {x:Bool} {a b:Value} {K:Value→Prop} (hc:x=false) (hp:plain b=true) (h:K b):prP (pk (.bool x) a b) K:=by rw [hc];exact CJ hp h
theorem uO {c:Prop} [Decidable c] {a b:Value} {K:Value→Prop} (hp:plain a=true) (hq:plain b=true) (h1:c→K a) (h2: ¬c→K b):prP (pk (.bool (decide c)) a b) K:=by
 by_cases h:c
 ·exact GC h hp (h1 h)
 ·exact F7 h hq (h2 h)
theorem wH {c:Prop} [Decidable c] {v:Value} (hc: ¬c):CB (.bool (decide c)) false v=v:=by rw [decide_eq_false hc];rfl
theorem r7 {c:Prop} [Decidable c] {v:Value} (hc:c):CB (.bool (decide c)) false v=undef:=by rw [decide_eq_true hc];rfl
theorem xR {a:Bool} {v:Value} (h:a=false):CB (.bool a) false v=v:=by rw [h];rfl
theorem b7 {g b:Bool} {w:Bool} {q:Prop} (h:q):gE (CB (.bool g) w (.bool b)) q:=by cases g <;> cases w <;> exact ⟨rfl,h⟩
theorem Af {g:Bool} {w:Bool} {q:Prop} (h:q):gE (CB (.bool g) w undef) q:=by cases g <;> cases w <;> exact ⟨rfl,h⟩
theorem Z6 {c:Prop} [Decidable c] {w:Bool} {v:Value} {m:(Value→Prop)→Prop} {K:Value→Prop} (hc: ¬c) (h:gP v w m K):gP (CB (.bool (decide c)) false v) w m K:=by rw [wH hc];exact h
theorem fK {c:Prop} [Decidable c] {w:Bool} {v:Value} {m:(Value→Prop)→Prop} {K:Value→Prop} (hc:c) (h:K undef):gP (CB (.bool (decide c)) false v) w m K:=by rw [r7 hc];exact Aj h
theorem xB {c:Bool} {w:Bool} {v:Value} {m:(Value→Prop)→Prop} {K:Value→Prop} (hc:c=false) (h:gP v w m K):gP (CB (.bool c) false v) w m K:=by rw [xR hc];exact h
theorem w9 {c:Prop} [Decidable c] {w:Bool} {v:Value} {m:(Value→Prop)→Prop} {K:Value→Prop} (h1: ¬c→gP v w m K) (h2:c→K undef):gP (CB (.bool (decide c)) false v) w m K:=by
 by_cases hc:c
 ·exact fK hc (h2 hc)
 ·exact Z6 hc (h1 hc)
theorem pO {w:Bool} {v:Value} {m:(Value→Prop)→Prop} {K:Value→Prop} (h:gP v w m K):gP (CB (.bool false) false v) w m K:=xB rfl h
theorem yA {w a:Bool} {p q:Prop} (ha:a=w) (h:p):gF (.bool a) w p q:= .inl ⟨by rw [ha],h⟩
theorem w5 {w a:Bool} {p q:Prop} (ha:a= !w) (h:q):gF (.bool a) w p q:= .inr ⟨.inl (by rw [ha]),h⟩
theorem Aa {c:Prop} [Decidable c] {p q:Prop} (h1: ¬c→p) (h2:c→q):gF (.bool (decide c)) false p q:=by
 by_cases h:c
 ·exact w5 (decide_eq_true h) (h2 h)
 ·exact yA (decide_eq_false h) (h1 h)
theorem CU {p q:Prop} (h:p):AJ (.bool true) p q:= .inl ⟨rfl,h⟩
theorem B7 {p q:Prop} (h:q):AJ (.bool false) p q:= .inr ⟨rfl,h⟩
theorem NX {a b:Value} {K:Value→Prop} (hp:plain a=true) (h:K a):prP (pk (.bool true) a b) K:=CJ hp h
theorem SO {a b:Value} {K:Value→Prop} (hp:plain b=true) (h:K b):prP (pk (.bool false) a b) K:=CJ hp h
theorem BQ {a:Value} {l:List Value}:nx (a::l) 0=a:=rfl
theorem BU {a b:Value} {l:List Value}:nx (a::b::l) 1=b:=rfl
theorem BY {a b c:Value} {l:List Value}:nx (a::b::c::l) 2=c:=rfl
theorem BX {a b c d:Value} {l:List Value}:nx (a::b::c::d::l) 3=d:=rfl
theorem BZ {a b c d e:Value} {l:List Value}:nx (a::b::c::d::e::l) 4=e:=rfl
theorem BW {a b c d e f:Value} {l:List Value}:nx (a::b::c::d::e::f::l) 5=f:=rfl
theorem BT {a b c d e f g:Value} {l:List Value}:nx (a::b::c::d::e::f::g::l) 6=g:=rfl
theorem A7 {a:List T} {l:List (List T)}:nxc (a::l) 0=a:=rfl
theorem BA {a b:List T} {l:List (List T)}:nxc (a::b::l) 1=b:=rfl
theorem BB {a b c:List T} {l:List (List T)}:nxc (a::b::c::l) 2=c:=rfl
theorem A9 {a b c d:List T} {l:List (List T)}:nxc (a::b::c::d::l) 3=d:=rfl
theorem BC {a b c d e:List T} {l:List (List T)}:nxc (a::b::c::d::e::l) 4=e:=rfl
theorem A8 {a b c d e f:List T} {l:List (List T)}:nxc (a::b::c::d::e::f::l) 5=f:=rfl
theorem AW {a:T}:cnt 1 [a]=1:=rfl
theorem AO:cnt 1 []=0:=rfl
theorem AR {a b:T}:cnt 2 [a,b]=1:=by simp [cnt]
theorem AS {a b c:T}:cnt 3 [a,b,c]=1:=by simp [cnt]
theorem AQ {a b c d e:T}:cnt 5 [a,b,c,d,e]=1:=by simp [cnt]
theorem AT {a b c d e f:T}:cnt 6 [a,b,c,d,e,f]=1:=by simp [cnt]
theorem pJ {a b c d e f g:T}:cnt 7 [a,b,c,d,e,f,g]=1:=by simp [cnt]
theorem AP {a b c d e f g h:T}:cnt 8 [a,b,c,d,e,f,g,h]=1:=by simp [cnt]
theorem GN {c:List T} {n m b:Nat} {q:Prop} (hf:flat c=true) (hn:(n+m)*b≤2^47) (h:q):apW c true n m b q:=⟨fun _=>hf,hn,h⟩
theorem uI {c:List T} {n m b:Nat} {q:Prop} (hn:(n+m)*b≤2^47) (h:q):apW c false n m b q:=⟨fun hx=>(by cases hx),hn,h⟩
theorem OW (l:List Int):flat (tI l)=true:=by simp [flat,tI,isC]
theorem uD (l:List ByteArray):flat (tS l)=true:=by simp [flat,tS,isC]
theorem V3 {n:Nat} {a:Int} {K:Value→Prop} (h0:0≤a) (h1:a<n) (h:K (iv a.toNat)):ixW n (I a) K:=
 ⟨.i64,a.toNat,by rw [Int.ofNat_eq_natCast,Int.toNat_of_nonneg h0],by omega,h⟩
theorem BV {f:J2} {g:J2→Prop} (h:g f):BF f g:=h
theorem G7 {α:Type} {F:J2→J2} {xs0:List Value} {cs0:List (List T)} (xs:α→List Value) (cs:α→List (List T)) (μ:α→Nat) (P:α→Prop) (a:α) (hx:xs0=xs a) (hc:cs0=cs a) (hP:P a)
  (h: ∀(R:J2) a,P a→(∀b,P b→μ b<μ a→R (xs b) (cs b))→F R (xs a) (cs a)):A6 F xs0 cs0:=by
 subst hx;subst hc
 intro R hR
 have: ∀k a,μ a<k→P a→R (xs a) (cs a):=by
  intro k
  induction k with
  | zero=>intro a hk _;omega
  | succ k ih=>intro a hk hp;exact hR _ _ (h R a hp fun b hb hlt=>ih b (by omega) hb)
 exact this _ a (Nat.lt_succ_self _) hP
def tR {α:Type} (f:α→List T) (l:List α):List T:=l.flatMap f
class Rw {α:Type} (f:α→List T) (e:outParam Nat):Prop where
 pos:1<e
 len: ∀x,(f x).length=e
section
variable {α:Type} {f:α→List T} {e:Nat}
theorem xM:tR f []=[]:=rfl
theorem LU (x:α) (l:List α):tR f (x::l)=f x++tR f l:=rfl
theorem wR (l m:List α):tR f (l++m)=tR f l++tR f m:=by simp [tR]
theorem O8 (l:List α) (x:α):tR f l++f x=tR f (l++[x]):=by simp [tR]
theorem V7 [hr:Rw f e] (l:List α):(tR f l).length=l.length*e:=by
 induction l with
 | nil=>simp [tR]
 | cons x l ih=>rw [LU,List.length_append,ih,hr.len,List.length_cons,Nat.add_mul];omega
theorem P4 [hr:Rw f e] (l:List α):cnt e (tR f l)=l.length:=by
 have hp:=hr.pos
 have:cnt e (tR f l)=(tR f l).length/e:=by
  match e,hp with
  | k+2,_=>rfl
 rw [this,V7,Nat.mul_div_cancel _ (by omega)]
theorem PG [hr:Rw f e]: ∀{l:List α} {i:Nat} (hi:i<l.length) {c:Nat},c<e→(tR f l)[i*e+c]? =(f l[i])[c]?
 | x::l,0,hi,c,hc=>by
   rw [LU,Nat.zero_mul,Nat.zero_add,List.getElem?_append_left (by rw [hr.len];exact hc)];rfl
 | x::l,i+1,hi,c,hc=>by
   have h1:i<l.length:=by simpa using hi
   rw [LU,List.getElem?_append_right (by rw [hr.len,Nat.add_mul];omega),hr.len]
   have:(i+1)*e+c-e=i*e+c:=by rw [Nat.add_mul];omega
   rw [this,PG h1 hc];rfl
theorem ZF [hr:Rw f e]: ∀(l:List α) (i:Nat),(tR f l).drop (i*e)=tR f (l.drop i)
 | l,0=>by simp
 | [],i+1=>by simp [tR]
 | x::l,i+1=>by
   rw [LU,List.drop_succ_cons, ←ZF l i]
   have:(i+1)*e=(f x).length+i*e:=by rw [Nat.add_mul,hr.len];omega
   rw [this,List.drop_append,List.drop_of_length_le (by omega)]
   simp
theorem T6 [hr:Rw f e]: ∀(l:List α) (i:Nat),(tR f l).take (i*e)=tR f (l.take i)
 | l,0=>by simp [tR]
 | [],i+1=>by simp [tR]
 | x::l,i+1=>by
   rw [LU,List.take_succ_cons,LU, ←T6 l i]
   have:(i+1)*e=(f x).length+i*e:=by rw [Nat.add_mul,hr.len];omega
   rw [this,List.take_append,List.take_of_length_le (by omega)]
   simp
theorem pN [hr:Rw f e] {l:List α} {i:Nat} (hi:i<l.length):((tR f l).drop (i*e)).take e=f l[i]:=by
 have h1:=T6 (f:=f) (l.drop i) 1
 rw [Nat.one_mul] at h1
 rw [ZF,h1,List.drop_eq_getElem_cons hi,List.take_succ_cons,List.take_zero,LU,xM,List.append_nil]
theorem pE [hr:Rw f e] {l:List α} {i:Nat} (hi:i<l.length) (y:α):KN (tR f l) (i*e) (f y)=tR f (l.set i y):=by
 have h1:i*e+e=(i+1)*e:=by rw [Nat.add_mul];omega
 rw [KN,hr.len,h1,T6,ZF,List.set_eq_take_append_cons_drop,if_pos hi,wR,LU]
theorem eG [hr:Rw f e] {l:List α} {i:Nat} (hi:i<l.length) {c:Nat} (hc:c<e) {t:T} {y:α} (hy:f y=(f l[i]).set c t):(tR f l).set (i*e+c) t=tR f (l.set i y):=by
 rw [←pE (f:=f) hi y,hy,KN,List.length_set,hr.len]
 have h0:tR f l=(tR f l).take (i*e)++(f l[i]++(tR f l).drop (i*e+e)):=by
  rw [←pN (f:=f) hi, ←List.drop_drop,List.take_append_drop,List.take_append_drop]
 have h1:((tR f l).take (i*e)).length=i*e:=by
  rw [T6,V7,List.length_take];congr 1;omega
 conv=>lhs;rw [h0]
 rw [List.set_append_right _ _ (by rw [h1];omega),h1,Nat.add_sub_cancel_left,List.set_append_left _ _ (by rw [hr.len];exact hc)]
theorem U7 {ds:List T} {off:Nat} {t:T} (h:off<ds.length):KN ds off [t]=ds.set off t:=by
 rw [KN,List.length_singleton,List.set_eq_take_append_cons_drop,if_pos h];rfl
theorem LB [hr:Rw f e] {l:List α} {i:Nat} (hi:i<l.length) {c:Nat} {v:Value} {K:Value→Prop} (hc:c<e) (hv:(f l[i])[c]? =some (.c v)) (h:K v):ldc (tR f l) [] (AB (iv i)*e+c) K:=by
 rw [AX];exact ⟨v,by simp only [cell,node,Option.bind_some];rw [PG hi hc];exact hv,h⟩
theorem JT [hr:Rw f e] {l:List α} {i:Nat} (hi:i<l.length) {v:Value} {K:Value→Prop} (hv:(f l[i])[0]? =some (.c v)) (h:K v):ldc (tR f l) [] (AB (iv i)*e) K:=
 LB hi (c:=0) (by have:=hr.pos;omega) hv h
theorem QD [hr:Rw f e] {l:List α} {i:Nat} (hi:i<l.length) {c e':Nat} {ds:List T} {K:Value→Prop} (hc:c<e) (hv:(f l[i])[c]? =some (.l e' ds)) (h:K (iv 0)):ldl (tR f l) [] (AB (iv i)*e+c) e' K:=by
 rw [AX];exact ⟨⟨ds,by simp only [cell,node,Option.bind_some];rw [PG hi hc];exact hv⟩,h⟩
theorem SD [hr:Rw f e] {l:List α} {i:Nat} (hi:i<l.length) {ks:List CK} {K:List T→Prop} (hn:ks.length=e) (hk:J4 ks (f l[i])=true) (h:K (f l[i])):ldg (tR f l) [] (AB (iv i)*e) ks K:=by
 refine ⟨f l[i], ?_,hk,h⟩
 rw [AX,hn];simp only [H9,node];exact pN hi
theorem aK [hr:Rw f e] {l:List α} {i:Nat} (hi:i<l.length) {c e':Nat} {ds:List T} {pre:List Nat} (hc:c<e) (hv:(f l[i])[c]? =some (.l e' ds)):node (tR f l) ((AB (iv i)*e+c)::pre)=node ds pre:=by
 rw [AX];simp only [node,PG hi hc,hv]
theorem aH [hr:Rw f e] {l:List α} {i:Nat} (hi:i<l.length) {c e':Nat} {ds:List T} (hc:c<e) (hv:(f l[i])[c]? =some (.l e' ds)):HF (tR f l) [AB (iv i)*e+c]=ds:=by
 have h:=aK hi hc hv (pre:=[])
 simp only [HF,h];rfl
theorem j5 [hr:Rw f e] {l:List α} {i:Nat} (hi:i<l.length) {c e' off:Nat} {ds:List T} {K:Value→Prop} (hc:c<e) (hv:(f l[i])[c]? =some (.l e' ds)) (h:ldc ds [] off K):ldc (tR f l) [AB (iv i)*e+c] off K:=by
 obtain ⟨v,h1,h2⟩:=h
 have h3:=aK hi hc hv (pre:=[])
 refine ⟨v, ?_,h2⟩
 unfold cell at h1 ⊢
 rw [h3];exact h1
theorem sG [hr:Rw f e] {l:List α} {i:Nat} (hi:i<l.length) {c e':Nat} {ds ds':List T} {y:α} (hc:c<e) (hv:(f l[i])[c]? =some (.l e' ds)) (hy:f y=(f l[i]).set c (.l e' ds')):GM (tR f l) [AB (iv i)*e+c] ds'=tR f (l.set i y):=by
 rw [AX]
 simp only [GM,PG hi hc,hv]
 exact eG hi hc hy
theorem SJ [hr:Rw f e] {l:List α} {i:Nat} (hi:i<l.length) {c:Nat} {v w:Value} {y:α} {K:List T→Prop} (hc:c<e) (hv:(f l[i])[c]? =some (.c w)) (hy:f y=(f l[i]).set c (.c v)) (h:K (tR f (l.set i y))):stc (tR f l) [] (AB (iv i)*e+c) v K:=by
 rw [AX]
 have hlt:i*e+c<(tR f l).length:=by
  rw [V7]
  have:(i+1)*e≤l.length*e:=Nat.mul_le_mul_right _ hi
  rw [Nat.add_mul] at this;omega
 refine ⟨⟨w,by simp only [cell,node,Option.bind_some];rw [PG hi hc];exact hv⟩, ?_⟩
 have:I1 (tR f l) [] (i*e+c) [.c v]=tR f (l.set i y):=by
  simp only [I1,node,GM]
  rw [U7 hlt,eG hi hc hy]
 rw [this];exact h
theorem sW [hr:Rw f e] {l:List α} {i:Nat} (hi:i<l.length) {c e' off:Nat} {v w:Value} {ds:List T} {y:α} {K:List T→Prop} (hc:c<e) (hv:(f l[i])[c]? =some (.l e' ds)) (hw:ds[off]? =some (.c w)) (hy:f y=(f l[i]).set c (.l e' (ds.set off (.c v)))) (h:K (tR f (l.set i y))):stc (tR f l) [AB (iv i)*e+c] off v K:=by
 have hlt:off<ds.length:=(List.getElem?_eq_some_iff.1 hw).1
 have h3:node (tR f l) [AB (iv i)*e+c]=some ds:=aK hi hc hv (pre:=[])
 refine ⟨⟨w,by unfold cell;rw [h3];exact hw⟩, ?_⟩
 have:I1 (tR f l) [AB (iv i)*e+c] off [.c v]=tR f (l.set i y):=by
  unfold I1
  rw [h3]
  simp only
  rw [U7 hlt,sG hi hc hv hy]
 rw [this];exact h
theorem S0 [hr:Rw f e] {l:List α} {i:Nat} (hi:i<l.length) {ts:List T} {y:α} {K:List T→Prop} (hy:ts=f y) (h:K (tR f (l.set i y))):stg (tR f l) [] (AB (iv i)*e) ts K:=by
 subst hy
 rw [AX]
 refine ⟨⟨_,rfl, ?_⟩, ?_⟩
 ·rw [hr.len,V7]
  have:(i+1)*e≤l.length*e:=Nat.mul_le_mul_right _ hi
  rw [Nat.add_mul] at this;omega
 ·have:I1 (tR f l) [] (i*e) (f y)=tR f (l.set i y):=by
   simp only [I1,node,GM];exact pE hi y
  rw [this];exact h
theorem iA [hr:Rw f e] {cur:List α} {i:Nat} (hi:i<cur.length) {y y':α} {c:Nat} {v w:Value} {K:List T→Prop} (hc:c<e) (hv:(f y)[c]? =some (.c w)) (hy:f y'=(f y).set c (.c v)) (h:K (tR f (cur.set i y'))):stc (tR f (cur.set i y)) [] (AB (iv i)*e+c) v K:=
 SJ (l:=cur.set i y) (by simpa using hi) (y:=y') hc (by rw [List.getElem_set_self];exact hv) (by rw [List.getElem_set_self];exact hy) (by rw [List.set_set];exact h)
theorem nV [hr:Rw f e] {cur:List α} {i:Nat} (hi:i<cur.length) {y:α} {c e':Nat} {ds:List T} (hc:c<e) (hv:(f y)[c]? =some (.l e' ds)):HF (tR f (cur.set i y)) [AB (iv i)*e+c]=ds:=
 aH (l:=cur.set i y) (by simpa using hi) hc (by rw [List.getElem_set_self];exact hv)
theorem Y2 [hr:Rw f e] {cur:List α} {i:Nat} (hi:i<cur.length) {y:α} {c e':Nat} {ds:List T} {K:Value→Prop} (hc:c<e) (hv:(f y)[c]? =some (.l e' ds)) (h:K (iv 0)):ldl (tR f (cur.set i y)) [] (AB (iv i)*e+c) e' K:=
 QD (l:=cur.set i y) (by simpa using hi) hc (by rw [List.getElem_set_self];exact hv) h
theorem RR [hr:Rw f e] {cur:List α} {i:Nat} (hi:i<cur.length) {y:α} {c:Nat} {v:Value} {K:Value→Prop} (hc:c<e) (hv:(f y)[c]? =some (.c v)) (h:K v):ldc (tR f (cur.set i y)) [] (AB (iv i)*e+c) K:=
 LB (l:=cur.set i y) (by simpa using hi) hc (by rw [List.getElem_set_self];exact hv) h
theorem sJ {cur:List α} {i:Nat} (hi:i<cur.length):tR f cur=tR f (cur.set i cur[i]):=by rw [List.set_getElem_self]
theorem iS (n:Nat) (x:α):SA n (f x)=tR f (List.replicate n x):=by
 simp only [SA,tR]
 induction n with
 | zero=>rfl
 | succ n ih=>rw [List.replicate_succ,List.replicate_succ,List.flatten_cons,List.flatMap_cons,ih]
end
theorem HV (l:List Int) (n:Int):tI l++[T.c (I n)]=tI (l++[n]):=by simp [tI]
theorem rR (l:List ByteArray) (n:ByteArray):tS l++[T.c (.string n)]=tS (l++[n]):=by simp [tS]
theorem vS {l:List Int} {j:Nat} (hj:j<l.length):(tI l)[j]? =some (.c (I l[j])):=by simp [tI,hj]
theorem wD {l:List Int} {j:Nat} {v:Int}:(tI l).set j (.c (I v))=tI (l.set j v):=by simp [tI,List.map_set]
end Go.Proofs.Ytklmcfpgdfibnaa.Eng
namespace Go.Proofs.Ytklmcfpgdfibnaa.Eng
open Go Go.RowKit
set_option linter.unusedVariables false
def Rdt {α:Type} (d:Kind α) (t:α→List T):Prop:=(∀x,(t x).length=d.sz)∧ ∀s x cs,d.E s x cs→ ∃F,TRs s false (t x) cs F
theorem w3:Rdt (xK .u8) fun n=>[.c (.int .u8 n)]:=⟨fun _=>rfl,fun s x cs h=>⟨[],by subst h;simp [TRs,TR,plain]⟩⟩
theorem iU {α:Type} {d:Kind α} {t:α→List T} (hd:Rdt d t) {s:St}: ∀(xs:List α) (cells:List Value),cells.length=xs.length*d.sz→(∀(i:Nat) x,xs[i]? =some x→d.E s x ((cells.drop (i*d.sz)).take d.sz))→ ∃F,TRs s false (xs.flatMap t) cells F
 | [],cells,hl,_=>⟨[],by
     have:cells=[]:=List.length_eq_zero_iff.1 (by simpa using hl)
     subst this;simp [TRs]⟩
 | x::xs,cells,hl,h=>by
   have h0:=h 0 x rfl
   rw [Nat.zero_mul,List.drop_zero] at h0
   obtain ⟨F1,g1⟩:=hd.2 s x _ h0
   rw [List.length_cons,Nat.add_mul,Nat.one_mul] at hl
   obtain ⟨F2,g2⟩:=iU hd xs (cells.drop d.sz) (by rw [List.length_drop];omega) (fun i y hy=>by
    have:=h (i+1) y (by simpa using hy)
    rwa [Nat.add_mul,Nat.one_mul,Nat.add_comm, ←List.drop_drop] at this)
   refine ⟨F1++F2, ?_⟩
   rw [List.flatMap_cons]
   exact KI.2 ⟨cells.take d.sz,cells.drop d.sz,F1,F2,(List.take_append_drop _ _).symm,g1,g2,rfl⟩
theorem TB {α:Type} {t:α→List T} {n:Nat} (h: ∀x,(t x).length=n): ∀xs:List α,(xs.flatMap t).length=xs.length*n
 | []=>by simp
 | x::xs=>by rw [List.flatMap_cons,List.length_append,h,TB h xs,List.length_cons,Nat.add_mul];omega
theorem vK {α:Type} {d:Kind α} {t:α→List T} {hsz:0<d.sz} (hd:Rdt d t):Rdt (kSl d hsz) fun xs=>[.l d.sz (xs.flatMap t)]:=
 ⟨fun _=>rfl,fun s xs cs ⟨v,h,cells,⟨h1,h2⟩,h3⟩=>by
  subst h
  obtain ⟨F,hF⟩:=iU hd xs cells h1 h3
  have hlen:=TB hd.1 xs
  rcases h2 with ⟨rfl,h0⟩ | ⟨b,off,ob,rfl,g1,g2,g3⟩
  ·have:xs=[]:=List.length_eq_zero_iff.1 h0
   subst this
   exact ⟨[],GP.2 ⟨nl,rfl,by simp [TR]⟩⟩
  ·refine ⟨b::F,GP.2 ⟨_,rfl,GK.2 (.inr ⟨b,off,xs.length,rfl,hlen,ob,F,g1,fun h=>(by cases h),by rw [hlen];exact g2, ?_,rfl⟩)⟩⟩
   rw [hlen,g3];exact hF⟩
theorem m3 {C:Ctx} {ρ:Rho} {s:St} {f:FuncId} {g:Sg} {es args sv:List Value} {vs:List Value} {cs:List (List T)} {D:List Nat} (hr:Rel C ρ s C.w0) (ht: ∀h,s.n≤h→ρ h=none) (ha:EI (VR ρ) es args) (hp:OQ s g.ps es vs cs sv [] D) (hg:g.rs=[(0,[.v])])
  (h:cl2 C f g vs cs fun vs' _=>vs'.head?=some (.bool true)):Calls C.P f args.toArray C.w0 fun e W'=>e= .returned (.bool true)∧Below C.w0.heap.size C.w0 W':=by
 obtain ⟨v,s',M',vs',cs',⟨hn,hgo⟩,_,hres,_,_,_,hk⟩:=h s es sv [] D hp List.nodup_nil (fun x hx=>by simp at hx)
 refine Calls.mono (hgo ρ C.w0 args (fun x h1 h2=>ht x h1) hr ha) fun e W' he=> ?_
 cases e with
 | returned u=>
   obtain ⟨ρ',_,hrel,hv⟩:=he
   obtain ⟨as',v1,v2,c1,c2,c3,M1,M2,M3,e1,e2,e3,e4,e5,hV,_,_⟩:=hres.ex
   rw [hg] at hV
   simp only [XL,LC] at hV
   obtain ⟨a,as2,us,w1,w2,d1,d2,N1,N2,rfl,rfl,rfl,⟨u1,us',vs1,rfl,rfl,_,rfl,rfl,_,_⟩,⟨rfl,rfl,_,_⟩,hu,_⟩:=hV
   subst e3
   simp only [List.cons_append,List.head?_cons,Option.some.injEq] at hk
   subst hk
   simp only [List.cons.injEq,and_true] at hu
   subst hu
   rw [e1] at hv
   have:u= .bool true:=hv
   exact ⟨by rw [this],hrel.bel⟩
 | outgrown=>exact he.elim
 | panicked x=>exact he.elim
end Go.Proofs.Ytklmcfpgdfibnaa.Eng
namespace Go.Proofs.Ytklmcfpgdfibnaa.Eng
open Go Go.RowKit
set_option linter.unusedVariables false
structure AE where
 live:Bool
 gen:Int
 site:Int
 holds:Int
 roots:Int
 count:Int
 field:List Int
 purple:Bool
structure Wk where
 used:Bool
 target:Int
structure Op5 where
 kind:Int
 a:Int
 b:Int
 c:Int
 site:ByteArray
structure An where
 code:Int
 val:Int
 freed:List Int
structure Nd where
 live:Bool
 gen:Int
 site:Int
 holds:Int
 roots:Int
 field:List Int
structure Hp where
 AD:List AE
 B6:List Wk
 buffer:List Int
 sites:List ByteArray
def tO (o:AE):List T:=[.c (.bool o.live), .c (I o.gen), .c (I o.site), .c (I o.holds), .c (I o.roots), .c (I o.count), .l 1 (tI o.field), .c (.bool o.purple)]
def tW (w:Wk):List T:=[.c (.bool w.used), .c (I w.target)]
def tP (o:Op5):List T:=[.c (I o.kind), .c (I o.a), .c (I o.b), .c (I o.c), .c (.string o.site)]
def tA (a:An):List T:=[.c (I a.code), .c (I a.val), .l 1 (tI a.freed)]
def tN (n:Nd):List T:=[.c (.bool n.live), .c (I n.gen), .c (I n.site), .c (I n.holds), .c (I n.roots), .l 1 (tI n.field)]
instance rwO:Rw tO 8:=⟨by omega,fun _=>rfl⟩
instance rwW:Rw tW 2:=⟨by omega,fun _=>rfl⟩
instance rwP:Rw tP 5:=⟨by omega,fun _=>rfl⟩
instance rwA:Rw tA 3:=⟨by omega,fun _=>rfl⟩
instance rwN:Rw tN 6:=⟨by omega,fun _=>rfl⟩
theorem AN (l:List AE):cnt 8 (tR tO l)=l.length:=P4 l
theorem AV (l:List Wk):cnt 2 (tR tW l)=l.length:=P4 l
theorem AK (l:List Op5):cnt 5 (tR tP l)=l.length:=P4 l
theorem AM (l:List An):cnt 3 (tR tA l)=l.length:=P4 l
theorem AU (l:List Nd):cnt 6 (tR tN l)=l.length:=P4 l
theorem uB (l:List AE) (x:AE):tR tO l++[T.c (.bool x.live), .c (I x.gen), .c (I x.site), .c (I x.holds), .c (I x.roots), .c (I x.count), .l 1 (tI x.field), .c (.bool x.purple)]=tR tO (l++[x]):=O8 l x
theorem rG (l:List Wk):flat (tR tW l)=true:=by
 simp only [flat,tR,List.all_flatMap,List.all_eq_true];intro x _ t ht
 simp only [tW,List.mem_cons,List.not_mem_nil,or_false] at ht
 rcases ht with rfl | rfl <;> rfl
section
variable {l:List AE} {i:Nat} {K:List T→Prop}
theorem kY {v:Int} (hi:i<l.length) (h:K (tR tO (l.set i {l[i] with holds:=v}))):stc (tR tO l) [] (AB (iv i)*8+3) (I v) K:=SJ hi (by decide) rfl rfl h
theorem kT {j:Nat} {v:Int} (hi:i<l.length) (hj:j<l[i].field.length) (h:K (tR tO (l.set i {l[i] with field:=l[i].field.set j v}))):stc (tR tO l) [AB (iv i)*8+6] (AB (iv j)*1) (I v) K:=by
 rw [AX j,Nat.mul_one]
 exact sW hi (by decide) rfl (vS hj) (by simp only [wD];rfl) h
end
def gI (l:List Int) (i:Nat):Int:=l.getD i 0
def gS (l:List ByteArray) (i:Nat):ByteArray:=l.getD i ⟨#[]⟩
theorem EN {l:List Int} {i:Nat} (h:i<l.length):l[i]=gI l i:=by simp [gI,h]
theorem PV {l:List ByteArray} {i:Nat} (h:i<l.length):l[i]=gS l i:=by simp [gS,h]
theorem ldI {l:List Int} {i:Nat} {K:Value→Prop} (hi:i<l.length) (h:K (I (gI l i))):ldc (tI l) [] (AB (iv i)*1) K:=by rw [←EN hi] at h;exact eF hi h
theorem ldS {l:List ByteArray} {i:Nat} {K:Value→Prop} (hi:i<l.length) (h:K (.string (gS l i))):ldc (tS l) [] (AB (iv i)*1) K:=by rw [←PV hi] at h;exact vR hi h
def ob (l:List AE) (i:Nat):AE:=l.getD i ⟨false,0,0,0,0,0,[],false⟩
theorem DG {l:List AE} {i:Nat} (h:i<l.length):l[i]=ob l i:=by simp [ob,h]
theorem eE {l:List AE} {i:Nat} {K:List T→Prop} (hi:i<l.length) (h:K (tO (ob l i))):ldg (tR tO l) [] (AB (iv i)*8) [.c, .c, .c, .c, .c, .c, .l 1, .c] K:=by rw [←DG hi] at h;exact SD hi rfl rfl h
theorem KC {l:List AE} {i c:Nat} {v:Value} {K:Value→Prop} (hi:i<l.length) (hc:c<8) (hv:(tO (ob l i))[c]? =some (.c v)) (h:K v):ldc (tR tO l) [] (AB (iv i)*8+c) K:=by rw [←DG hi] at hv;exact LB hi hc hv h
theorem KL {l:List AE} {i:Nat} {v:Value} {K:Value→Prop} (hi:i<l.length) (hv:(tO (ob l i))[0]? =some (.c v)) (h:K v):ldc (tR tO l) [] (AB (iv i)*8) K:=by rw [←DG hi] at hv;exact JT hi hv h
def wk (l:List Wk) (i:Nat):Wk:=l.getD i ⟨false,0⟩
theorem dG {l:List Wk} {i:Nat} (h:i<l.length):l[i]=wk l i:=by simp [wk,h]
theorem xF {l:List Wk} {i:Nat} {K:List T→Prop} (hi:i<l.length) (h:K (tW (wk l i))):ldg (tR tW l) [] (AB (iv i)*2) [.c, .c] K:=by rw [←dG hi] at h;exact SD hi rfl rfl h
theorem w7 {l:List Wk} {i c:Nat} {v:Value} {K:Value→Prop} (hi:i<l.length) (hc:c<2) (hv:(tW (wk l i))[c]? =some (.c v)) (h:K v):ldc (tR tW l) [] (AB (iv i)*2+c) K:=by rw [←dG hi] at hv;exact LB hi hc hv h
theorem T5 {l:List Wk} {i:Nat} {v:Value} {K:Value→Prop} (hi:i<l.length) (hv:(tW (wk l i))[0]? =some (.c v)) (h:K v):ldc (tR tW l) [] (AB (iv i)*2) K:=by rw [←dG hi] at hv;exact JT hi hv h
def po (l:List Op5) (i:Nat):Op5:=l.getD i ⟨0,0,0,0,⟨#[]⟩⟩
theorem jN {l:List Op5} {i:Nat} (h:i<l.length):l[i]=po l i:=by simp [po,h]
theorem oZ {l:List Op5} {i:Nat} {K:List T→Prop} (hi:i<l.length) (h:K (tP (po l i))):ldg (tR tP l) [] (AB (iv i)*5) [.c, .c, .c, .c, .c] K:=by rw [←jN hi] at h;exact SD hi rfl rfl h
theorem dY {l:List Op5} {i c:Nat} {v:Value} {K:Value→Prop} (hi:i<l.length) (hc:c<5) (hv:(tP (po l i))[c]? =some (.c v)) (h:K v):ldc (tR tP l) [] (AB (iv i)*5+c) K:=by rw [←jN hi] at hv;exact LB hi hc hv h
theorem ZY {l:List Op5} {i:Nat} {v:Value} {K:Value→Prop} (hi:i<l.length) (hv:(tP (po l i))[0]? =some (.c v)) (h:K v):ldc (tR tP l) [] (AB (iv i)*5) K:=by rw [←jN hi] at hv;exact JT hi hv h
def an (l:List An) (i:Nat):An:=l.getD i ⟨0,0,[]⟩
theorem b9 {l:List An} {i:Nat} (h:i<l.length):l[i]=an l i:=by simp [an,h]
theorem wC {l:List An} {i:Nat} {K:List T→Prop} (hi:i<l.length) (h:K (tA (an l i))):ldg (tR tA l) [] (AB (iv i)*3) [.c, .c, .l 1] K:=by rw [←b9 hi] at h;exact SD hi rfl rfl h
theorem vM {l:List An} {i c:Nat} {v:Value} {K:Value→Prop} (hi:i<l.length) (hc:c<3) (hv:(tA (an l i))[c]? =some (.c v)) (h:K v):ldc (tR tA l) [] (AB (iv i)*3+c) K:=by rw [←b9 hi] at hv;exact LB hi hc hv h
theorem Z7 {l:List An} {i:Nat} {v:Value} {K:Value→Prop} (hi:i<l.length) (hv:(tA (an l i))[0]? =some (.c v)) (h:K v):ldc (tR tA l) [] (AB (iv i)*3) K:=by rw [←b9 hi] at hv;exact JT hi hv h
def nd (l:List Nd) (i:Nat):Nd:=l.getD i ⟨false,0,0,0,0,[]⟩
theorem KY {l:List AE} {i:Nat} (hi:i<l.length):HF (tR tO l) [AB (iv i)*8+6]=tI (ob l i).field:=by rw [←DG hi];exact aH hi (by decide) rfl
theorem QO {l:List AE} {i j:Nat} {K:Value→Prop} (hi:i<l.length) (hj:j<(ob l i).field.length) (h:K (I (gI (ob l i).field j))):ldc (tR tO l) [AB (iv i)*8+6] (AB (iv j)*1) K:=by
 rw [←EN hj] at h
 have e:=DG hi
 exact j5 hi (by decide) (ds:=tI (ob l i).field) (by rw [e];rfl) (eF hj h)
theorem dT {l:List AE} {i:Nat} {K:Value→Prop} (hi:i<l.length) (h:K (iv 0)):ldl (tR tO l) [] (AB (iv i)*8+6) 1 K:=QD hi (by decide) rfl h
theorem eH {l:List An} {i:Nat} (hi:i<l.length):HF (tR tA l) [AB (iv i)*3+2]=tI (an l i).freed:=by rw [←b9 hi];exact aH hi (by decide) rfl
theorem wZ {l:List An} {i j:Nat} {K:Value→Prop} (hi:i<l.length) (hj:j<(an l i).freed.length) (h:K (I (gI (an l i).freed j))):ldc (tR tA l) [AB (iv i)*3+2] (AB (iv j)*1) K:=by
 rw [←EN hj] at h
 have e:=b9 hi
 exact j5 hi (by decide) (ds:=tI (an l i).freed) (by rw [e];rfl) (eF hj h)
theorem qJ {l:List An} {i:Nat} {K:Value→Prop} (hi:i<l.length) (h:K (iv 0)):ldl (tR tA l) [] (AB (iv i)*3+2) 1 K:=QD hi (by decide) rfl h
end Go.Proofs.Ytklmcfpgdfibnaa.Eng
