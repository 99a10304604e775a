/- A part of the proof. -/
import Derived.Test.YtklmcfpgdfibnaaWaEngM5
import Derived.Test.YtklmcfpgdfibnaaWaEngM2
namespace Go.Proofs.Ytklmcfpgdfibnaa.Eng
open Go Go.RowKit
set_option linter.unusedVariables false
set_option linter.unusedSimpArgs false
abbrev I (n:Int):Value:= .int .i64 n
def F64 (n:Int):Prop:= -2^63≤n∧n<2^63
theorem NK {n:Int} (h:F64 n):IntKind.i64.wrap n=n:=by
 obtain ⟨h1,h2⟩:=h
 rw [IntKind.wrap_i64];omega
theorem CJ {v:Value} {K:Value→Prop} (hp:plain v=true) (h:K v):prP (some v) K:=⟨v,rfl,hp,h⟩
theorem FR {a b:Int} {K:Value→Prop} (hf:F64 (a+b)) (h:K (I (a+b))):prP (bnI .add (I a) (I b)) K:=CJ (v:= .int .i64 (IntKind.i64.wrap (a+b))) rfl (by rw [NK hf];exact h)
theorem G5 {a b:Int} {K:Value→Prop} (hf:F64 (a-b)) (h:K (I (a-b))):prP (bnI .sub (I a) (I b)) K:=CJ (v:= .int .i64 (IntKind.i64.wrap (a-b))) rfl (by rw [NK hf];exact h)
theorem RZ {a b:Int} {K:Value→Prop} (hf:F64 (a*b)) (h:K (I (a*b))):prP (bnI .mul (I a) (I b)) K:=CJ (v:= .int .i64 (IntKind.i64.wrap (a*b))) rfl (by rw [NK hf];exact h)
theorem BA {a b:Int} {K:Value→Prop} (h:K (.bool (decide (a<b)))):prP (bnI .lss (I a) (I b)) K:=CJ rfl h
theorem IJ {a b:Int} {K:Value→Prop} (h:K (.bool (decide (a≤b)))):prP (bnI .leq (I a) (I b)) K:=CJ rfl h
theorem JQ {a b:Int} {K:Value→Prop} (h:K (.bool (decide (a>b)))):prP (bnI .gtr (I a) (I b)) K:=CJ rfl h
theorem HL {a b:Int} {K:Value→Prop} (h:K (.bool (decide (a≥b)))):prP (bnI .geq (I a) (I b)) K:=CJ rfl h
theorem qO {a b:Int} {K:Value→Prop} (h:K (.bool (a != b))):prP (bnI .neq (I a) (I b)) K:=CJ rfl h
theorem CN {b:Bool} {K:Value→Prop} (h:K (.bool !b)):prP (un .not (.bool b)) K:=CJ rfl h
theorem nW {a b:ByteArray} {K:Value→Prop} (h:K (.bool (a.toList==b.toList))):prP (bnS .eql (.string a) (.string b)) K:=CJ rfl h
theorem eX {a:ByteArray} {K:Value→Prop} (h:K (I a.size)):prP (lnS (.string a)) K:=CJ rfl h
theorem R7 {b:Bool} {p q:Prop} (h1:b=true→p) (h2:b=false→q):AX (.bool b) p q:=by
 cases b
 ·exact .inr ⟨rfl,h2 rfl⟩
 ·exact .inl ⟨rfl,h1 rfl⟩
theorem AZ {c:Prop} [Decidable c] {p q:Prop} (h1:c→p) (h2: ¬c→q):AX (.bool (decide c)) p q:=
 R7 (fun h=>h1 (of_decide_eq_true h)) (fun h=>h2 (of_decide_eq_false h))
theorem kX {cs:List T} {off:Nat} {v:Value} {K:Value→Prop} (hc:cs[off]? =some (.c v)) (h:K v):ldc cs [] off K:=⟨v,by simpa [cell,node] using hc,h⟩
def tI (l:List Int):List T:=l.map fun n=> .c (I n)
def tS (l:List ByteArray):List T:=l.map fun n=> .c (.string n)
theorem AG (l:List Int):cnt 1 (tI l)=l.length:=by simp [cnt,tI]
theorem AJ (l:List ByteArray):cnt 1 (tS l)=l.length:=by simp [cnt,tS]
theorem lX {l:List Int} {i:Nat} {K:Value→Prop} (hi:i<l.length) (h:K (I l[i])):ldc (tI l) [] (AD (iv i)*1) K:=
 kX (by rw [AW,Nat.mul_one];simp [tI,hi]) h
theorem tX {l:List ByteArray} {i:Nat} {K:Value→Prop} (hi:i<l.length) (h:K (.string l[i])):ldc (tS l) [] (AD (iv i)*1) K:=
 kX (by rw [AW,Nat.mul_one];simp [tS,hi]) h
theorem sU {l:List Int} {i:Nat} {v:Int} {K:List T→Prop} (hi:i<l.length) (h:K (tI (l.set i v))):stc (tI l) [] (AD (iv i)*1) (I v) K:=by
 rw [AW,Nat.mul_one]
 refine ⟨⟨I l[i],by simp [cell,node,tI,hi]⟩, ?_⟩
 have:IZ (tI l) [] i [.c (I v)]=tI (l.set i v):=by
  simp only [IZ,node,GF,KK,tI,List.length_singleton]
  rw [List.set_eq_take_append_cons_drop,if_pos hi]
  simp [List.map_take,List.map_drop]
 rw [this];exact h
theorem mJ {F:J2→J2} (xs:Nat→List Value) (cs:Nat→List (List T)) (n:Nat) (P:Nat→Prop) (h: ∀(R:J2) i,i≤n→P i→(i<n→P (i+1)→R (xs (i+1)) (cs (i+1)))→F R (xs i) (cs i)) {i:Nat} (hi:i≤n) (hP:P i):BE F (xs i) (cs i):=by
 intro R hR
 obtain ⟨k,hk⟩: ∃k,n=i+k:=⟨n-i,by omega⟩
 induction k generalizing i with
 | zero=>exact hR _ _ (h R i hi hP fun hlt=>by omega)
 | succ k ih=>exact hR _ _ (h R i hi hP fun hlt hp=>ih hlt hp (by omega))
theorem BJ {F:J2→J2} {xs0:List Value} {cs0:List (List T)} (xs:Nat→List Value) (cs:Nat→List (List T)) (n:Nat) (P:Nat→Prop) (hx:xs0=xs 0) (hc:cs0=cs 0) (hP:P 0) (h: ∀(R:J2) i,i≤n→P i→(i<n→P (i+1)→R (xs (i+1)) (cs (i+1)))→F R (xs i) (cs i)):BE F xs0 cs0:=by
 subst hx;subst hc;exact mJ xs cs n P h (Nat.zero_le _) hP
theorem AH {n j:Nat} {K:Value→Prop} (hj:j<n) (h:K (iv j)):ixW n (iv j) K:=⟨.i64,j,rfl,hj,h⟩
theorem BB {j:Nat} {K:Value→Prop} (hf:(j:Int)+1<2^63) (h:K (iv (j+1))):prP (bnI .add (iv j) (I 1)) K:=FR (a:=Int.ofNat j) ⟨by have:=Int.natCast_nonneg j;simp only [Int.ofNat_eq_natCast] at*;omega,by simpa using hf⟩ h
end Go.Proofs.Ytklmcfpgdfibnaa.Eng
namespace Go.Proofs.Ytklmcfpgdfibnaa.Eng
open Go Go.RowKit
set_option linter.unusedVariables false
set_option linter.unusedSimpArgs false
def w64 (n:Int):Int:=IntKind.i64.wrap n
theorem I8 {n:Int} (h:F64 n):w64 n=n:=NK h
theorem HG {a b:Int} {K:Value→Prop} (h:K (I (w64 (a+b)))):prP (bnI .add (I a) (I b)) K:=CJ rfl h
theorem bO {a b:Int} {K:Value→Prop} (h:K (I (w64 (a-b)))):prP (bnI .sub (I a) (I b)) K:=CJ rfl h
theorem B1 {a b:Int} {K:Value→Prop} (h:K (.bool (decide (a=b)))):prP (bnI .eql (I a) (I b)) K:=CJ rfl h
theorem C8 {a b:Int} {K:Value→Prop} (h:K (.bool (decide (a≠b)))):prP (bnI .neq (I a) (I b)) K:=by
 refine qO ?_
 have:(a != b)=decide (a≠b):=by rw [Bool.eq_iff_iff];simp
 rw [this];exact h
theorem TW {a b:Int} {K:Value→Prop} (ha:0≤a) (hb:0<b) (h:K (I (a % b))):prP (bnI .rem (I a) (I b)) K:=by
 refine ⟨.int .i64 (a.tmod b), ?_,rfl, ?_⟩
 ·simp [bnI];omega
 ·rw [Int.tmod_eq_emod_of_nonneg ha];exact h
theorem fW {a b:Int} {K:Value→Prop} (ha:0≤a) (hf:F64 a) (hb:0<b) (h:K (I (a/b))):prP (bnI .quo (I a) (I b)) K:=by
 have hd:a.tdiv b=a/b:=Int.tdiv_eq_ediv_of_nonneg ha
 have h1:0≤a/b:=Int.ediv_nonneg ha (by omega)
 have h2:a/b≤a:=Int.ediv_le_self _ ha
 refine ⟨.int .i64 (IntKind.i64.wrap (a.tdiv b)), ?_,rfl, ?_⟩
 ·simp [bnI];omega
 ·rw [hd,NK ⟨by omega,by have:=hf.2;omega⟩];exact h
theorem FW {c:Prop} [Decidable c] {K:Value→Prop} (h:K (.bool (decide ¬c))):prP (un .not (.bool (decide c))) K:=by
 refine CN ?_
 have:(!decide c)=decide ¬c:=by simp
 rw [this];exact h
theorem uM {a b:ByteArray} (h:a.toList=b.toList):a=b:=by
 rw [ByteArray.toList_eq,ByteArray.toList_eq] at h
 exact ByteArray.ext (Array.ext' h)
theorem cC {a b:ByteArray} {K:Value→Prop} (h:K (.bool (decide (a=b)))):prP (bnS .eql (.string a) (.string b)) K:=by
 refine nW ?_
 have:(a.toList==b.toList)=decide (a=b):=by
  rw [Bool.eq_iff_iff,beq_iff_eq,decide_eq_true_eq];exact ⟨uM,fun h=>by rw [h]⟩
 rw [this];exact h
theorem fA {b:Bool} {p q:Prop} (hb:b=true) (h:p):AX (.bool b) p q:= .inl ⟨by rw [hb],h⟩
theorem kQ {b:Bool} {p q:Prop} (hb:b=false) (h:q):AX (.bool b) p q:= .inr ⟨by rw [hb],h⟩
theorem EK {c:Prop} [Decidable c] {p q:Prop} (hc:c) (h:p):AX (.bool (decide c)) p q:=fA (decide_eq_true hc) h
theorem FM {c:Prop} [Decidable c] {p q:Prop} (hc: ¬c) (h:q):AX (.bool (decide c)) p q:=kQ (decide_eq_false hc) h
theorem BO {b:Bool} {q:Prop} (h:q):gE (.bool b) q:=⟨rfl,h⟩
theorem PV {w a:Bool} {m:(Value→Prop)→Prop} {K:Value→Prop} (ha:a=w) (h:m K):gP (.bool a) w m K:= .inl ⟨by rw [ha],h⟩
theorem N8 {w a:Bool} {m:(Value→Prop)→Prop} {K:Value→Prop} (ha:a= !w) (h:K undef):gP (.bool a) w m K:= .inr ⟨.inl (by rw [ha]),h⟩
theorem fH {a:Bool} {m:(Value→Prop)→Prop} {K:Value→Prop} (ha:a=false) (h:K undef):gP (.bool a) true m K:=N8 ha h
theorem hD {a:Bool} {m:(Value→Prop)→Prop} {K:Value→Prop} (ha:a=true) (h:K undef):gP (.bool a) false m K:=N8 ha h
theorem LN {m:(Value→Prop)→Prop} {K:Value→Prop} (h:m K):gP (.bool true) true m K:=PV rfl h
theorem NS {m:(Value→Prop)→Prop} {K:Value→Prop} (h:m K):gP (.bool false) false m K:=PV rfl h
theorem RJ {m:(Value→Prop)→Prop} {K:Value→Prop} (h:K undef):gP (.bool true) false m K:=N8 rfl h
theorem JW {m:(Value→Prop)→Prop} {K:Value→Prop} (h:K undef):gP (.bool false) true m K:=N8 rfl h
theorem xC {w:Bool} {m:(Value→Prop)→Prop} {K:Value→Prop} (h:K undef):gP undef w m K:= .inr ⟨.inr rfl,h⟩
theorem nS {a:Bool} {m:(Value→Prop)→Prop} {K:Value→Prop} (h1:a=true→m K) (h2:a=false→K undef):gP (.bool a) true m K:=by
 cases a
 ·exact N8 rfl (h2 rfl)
 ·exact PV rfl (h1 rfl)
theorem nK {a:Bool} {m:(Value→Prop)→Prop} {K:Value→Prop} (h1:a=false→m K) (h2:a=true→K undef):gP (.bool a) false m K:=by
 cases a
 ·exact PV rfl (h1 rfl)
 ·exact N8 rfl (h2 rfl)
theorem LP {c:Prop} [Decidable c] {m:(Value→Prop)→Prop} {K:Value→Prop} (h1:c→m K) (h2: ¬c→K undef):gP (.bool (decide c)) true m K:=
 nS (fun h=>h1 (of_decide_eq_true h)) fun h=>h2 (of_decide_eq_false h)
theorem MP {c:Prop} [Decidable c] {m:(Value→Prop)→Prop} {K:Value→Prop} (h1: ¬c→m K) (h2:c→K undef):gP (.bool (decide c)) false m K:=
 nK (fun h=>h1 (of_decide_eq_false h)) fun h=>h2 (of_decide_eq_true h)
theorem IA {c:Prop} [Decidable c] {m:(Value→Prop)→Prop} {K:Value→Prop} (hc:c) (h:m K):gP (.bool (decide c)) true m K:=PV (decide_eq_true hc) h
theorem K3 {c:Prop} [Decidable c] {m:(Value→Prop)→Prop} {K:Value→Prop} (hc: ¬c) (h:K undef):gP (.bool (decide c)) true m K:=N8 (decide_eq_false hc) h
theorem IK {c:Prop} [Decidable c] {m:(Value→Prop)→Prop} {K:Value→Prop} (hc:c) (h:K undef):gP (.bool (decide c)) false m K:=N8 (decide_eq_true hc) h
theorem DU {c:Prop} [Decidable c] {m:(Value→Prop)→Prop} {K:Value→Prop} (hc: ¬c) (h:m K):gP (.bool (decide c)) false m K:=PV (decide_eq_false hc) h
theorem D9 {c:Prop} [Decidable c] {a b:Value} {K:Value→Prop} (hc:c) (hp:plain a=true) (h:K a):prP (pk (.bool (decide c)) a b) K:=by rw [decide_eq_true hc];exact CJ hp h
theorem EC {c:Prop} [Decidable c] {a b:Value} {K:Value→Prop} (hc: ¬c) (hp:plain b=true) (h:K b):prP (pk (.bool (decide c)) a b) K:=by rw [decide_eq_false hc];exact CJ hp h
theorem pR {x:Bool} {a b:Value} {K:Value→Prop} (hc:x=true) (hp:plain a=true) (h:K a):prP (pk (.bool x) a b) K:=by rw [hc];exact CJ hp h
theorem pU {x:Bool} {a b:Value} {K:Value→Prop} (hc:x=false) (hp:plain b=true) (h:K b):prP (pk (.bool x) a b) K:=by rw [hc];exact CJ hp h
theorem lY {c:Prop} [Decidable c] {a b:Value} {K:Value→Prop} (hp:plain a=true) (hq:plain b=true) (h1:c→K a) (h2: ¬c→K b):prP (pk (.bool (decide c)) a b) K:=by
 by_cases h:c
 ·exact D9 h hp (h1 h)
 ·exact EC h hq (h2 h)
theorem tD {c:Prop} [Decidable c] {v:Value} (hc: ¬c):CI (.bool (decide c)) false v=v:=by rw [decide_eq_false hc];rfl
theorem qW {c:Prop} [Decidable c] {v:Value} (hc:c):CI (.bool (decide c)) false v=undef:=by rw [decide_eq_true hc];rfl
theorem uI {a:Bool} {v:Value} (h:a=false):CI (.bool a) false v=v:=by rw [h];rfl
theorem Z1 {g b:Bool} {w:Bool} {q:Prop} (h:q):gE (CI (.bool g) w (.bool b)) q:=by cases g <;> cases w <;> exact ⟨rfl,h⟩
theorem wB {g:Bool} {w:Bool} {q:Prop} (h:q):gE (CI (.bool g) w undef) q:=by cases g <;> cases w <;> exact ⟨rfl,h⟩
theorem YM {c:Prop} [Decidable c] {w:Bool} {v:Value} {m:(Value→Prop)→Prop} {K:Value→Prop} (hc: ¬c) (h:gP v w m K):gP (CI (.bool (decide c)) false v) w m K:=by rw [tD hc];exact h
theorem c7 {c:Prop} [Decidable c] {w:Bool} {v:Value} {m:(Value→Prop)→Prop} {K:Value→Prop} (hc:c) (h:K undef):gP (CI (.bool (decide c)) false v) w m K:=by rw [qW hc];exact xC h
theorem tF {c:Bool} {w:Bool} {v:Value} {m:(Value→Prop)→Prop} {K:Value→Prop} (hc:c=false) (h:gP v w m K):gP (CI (.bool c) false v) w m K:=by rw [uI hc];exact h
theorem sE {c:Prop} [Decidable c] {w:Bool} {v:Value} {m:(Value→Prop)→Prop} {K:Value→Prop} (h1: ¬c→gP v w m K) (h2:c→K undef):gP (CI (.bool (decide c)) false v) w m K:=by
 by_cases hc:c
 ·exact c7 hc (h2 hc)
 ·exact YM hc (h1 hc)
theorem mU {w:Bool} {v:Value} {m:(Value→Prop)→Prop} {K:Value→Prop} (h:gP v w m K):gP (CI (.bool false) false v) w m K:=tF rfl h
theorem wJ {w a:Bool} {p q:Prop} (ha:a=w) (h:p):gF (.bool a) w p q:= .inl ⟨by rw [ha],h⟩
theorem sP {w a:Bool} {p q:Prop} (ha:a= !w) (h:q):gF (.bool a) w p q:= .inr ⟨.inl (by rw [ha]),h⟩
theorem wM {c:Prop} [Decidable c] {p q:Prop} (h1: ¬c→p) (h2:c→q):gF (.bool (decide c)) false p q:=by
 by_cases h:c
 ·exact sP (decide_eq_true h) (h2 h)
 ·exact wJ (decide_eq_false h) (h1 h)
theorem CL {p q:Prop} (h:p):AX (.bool true) p q:= .inl ⟨rfl,h⟩
theorem CE {p q:Prop} (h:q):AX (.bool false) p q:= .inr ⟨rfl,h⟩
theorem TP {a b:Value} {K:Value→Prop} (hp:plain a=true) (h:K a):prP (pk (.bool true) a b) K:=CJ hp h
theorem WW {a b:Value} {K:Value→Prop} (hp:plain b=true) (h:K b):prP (pk (.bool false) a b) K:=CJ hp h
theorem BH {a:Value} {l:List Value}:nx (a::l) 0=a:=rfl
theorem BP {a b:Value} {l:List Value}:nx (a::b::l) 1=b:=rfl
theorem BS {a b c:Value} {l:List Value}:nx (a::b::c::l) 2=c:=rfl
theorem BM {a b c d:Value} {l:List Value}:nx (a::b::c::d::l) 3=d:=rfl
theorem BQ {a b c d e:Value} {l:List Value}:nx (a::b::c::d::e::l) 4=e:=rfl
theorem BN {a b c d e f:Value} {l:List Value}:nx (a::b::c::d::e::f::l) 5=f:=rfl
theorem BL {a b c d e f g:Value} {l:List Value}:nx (a::b::c::d::e::f::g::l) 6=g:=rfl
theorem A6 {a:List T} {l:List (List T)}:nxc (a::l) 0=a:=rfl
theorem A5 {a b:List T} {l:List (List T)}:nxc (a::b::l) 1=b:=rfl
theorem A4 {a b c:List T} {l:List (List T)}:nxc (a::b::c::l) 2=c:=rfl
theorem A7 {a b c d:List T} {l:List (List T)}:nxc (a::b::c::d::l) 3=d:=rfl
theorem A8 {a b c d e:List T} {l:List (List T)}:nxc (a::b::c::d::e::l) 4=e:=rfl
theorem A9 {a b c d e f:List T} {l:List (List T)}:nxc (a::b::c::d::e::f::l) 5=f:=rfl
theorem AK {a:T}:cnt 1 [a]=1:=rfl
theorem AO:cnt 1 []=0:=rfl
theorem AP {a b:T}:cnt 2 [a,b]=1:=by simp [cnt]
theorem AN {a b c:T}:cnt 3 [a,b,c]=1:=by simp [cnt]
theorem AT {a b c d e:T}:cnt 5 [a,b,c,d,e]=1:=by simp [cnt]
theorem AS {a b c d e f:T}:cnt 6 [a,b,c,d,e,f]=1:=by simp [cnt]
theorem AM {a b c d e f g h:T}:cnt 8 [a,b,c,d,e,f,g,h]=1:=by simp [cnt]
theorem DW {c:List T} {n m b:Nat} {q:Prop} (hf:flat c=true) (hn:(n+m)*b≤2^47) (h:q):apW c true n m b q:=⟨fun _=>hf,hn,h⟩
theorem rF {c:List T} {n m b:Nat} {q:Prop} (hn:(n+m)*b≤2^47) (h:q):apW c false n m b q:=⟨fun hx=>(by cases hx),hn,h⟩
theorem JT (l:List Int):flat (tI l)=true:=by simp [flat,tI,isC]
theorem ZP (l:List ByteArray):flat (tS l)=true:=by simp [flat,tS,isC]
theorem S8 {n:Nat} {a:Int} {K:Value→Prop} (h0:0≤a) (h1:a<n) (h:K (iv a.toNat)):ixW n (I a) K:=
 ⟨.i64,a.toNat,by rw [Int.ofNat_eq_natCast,Int.toNat_of_nonneg h0],by omega,h⟩
theorem BY {f:J2} {g:J2→Prop} (h:g f):BK f g:=h
theorem EJ {α:Type} {F:J2→J2} {xs0:List Value} {cs0:List (List T)} (xs:α→List Value) (cs:α→List (List T)) (μ:α→Nat) (P:α→Prop) (a:α) (hx:xs0=xs a) (hc:cs0=cs a) (hP:P a)
  (h: ∀(R:J2) a,P a→(∀b,P b→μ b<μ a→R (xs b) (cs b))→F R (xs a) (cs a)):BE F xs0 cs0:=by
 subst hx;subst hc
 intro R hR
 have: ∀k a,μ a<k→P a→R (xs a) (cs a):=by
  intro k
  induction k with
  | zero=>intro a hk _;omega
  | succ k ih=>intro a hk hp;exact hR _ _ (h R a hp fun b hb hlt=>ih b (by omega) hb)
 exact this _ a (Nat.lt_succ_self _) hP
def tR {α:Type} (f:α→List T) (l:List α):List T:=l.flatMap f
class Rw {α:Type} (f:α→List T) (e:outParam Nat):Prop where
 pos:1<e
 len: ∀x,(f x).length=e
section
variable {α:Type} {f:α→List T} {e:Nat}
theorem uE:tR f []=[]:=rfl
theorem LH (x:α) (l:List α):tR f (x::l)=f x++tR f l:=rfl
theorem tL (l m:List α):tR f (l++m)=tR f l++tR f m:=by simp [tR]
theorem YE (l:List α) (x:α):tR f l++f x=tR f (l++[x]):=by simp [tR]
theorem VV [hr:Rw f e] (l:List α):(tR f l).length=l.length*e:=by
 induction l with
 | nil=>simp [tR]
 | cons x l ih=>rw [LH,List.length_append,ih,hr.len,List.length_cons,Nat.add_mul];omega
theorem US [hr:Rw f e] (l:List α):cnt e (tR f l)=l.length:=by
 have hp:=hr.pos
 have:cnt e (tR f l)=(tR f l).length/e:=by
  match e,hp with
  | k+2,_=>rfl
 rw [this,VV,Nat.mul_div_cancel _ (by omega)]
theorem O0 [hr:Rw f e]: ∀{l:List α} {i:Nat} (hi:i<l.length) {c:Nat},c<e→(tR f l)[i*e+c]? =(f l[i])[c]?
 | x::l,0,hi,c,hc=>by
   rw [LH,Nat.zero_mul,Nat.zero_add,List.getElem?_append_left (by rw [hr.len];exact hc)];rfl
 | x::l,i+1,hi,c,hc=>by
   have h1:i<l.length:=by simpa using hi
   rw [LH,List.getElem?_append_right (by rw [hr.len,Nat.add_mul];omega),hr.len]
   have:(i+1)*e+c-e=i*e+c:=by rw [Nat.add_mul];omega
   rw [this,O0 h1 hc];rfl
theorem UD [hr:Rw f e]: ∀(l:List α) (i:Nat),(tR f l).drop (i*e)=tR f (l.drop i)
 | l,0=>by simp
 | [],i+1=>by simp [tR]
 | x::l,i+1=>by
   rw [LH,List.drop_succ_cons, ←UD l i]
   have:(i+1)*e=(f x).length+i*e:=by rw [Nat.add_mul,hr.len];omega
   rw [this,List.drop_append,List.drop_of_length_le (by omega)]
   simp
theorem RO [hr:Rw f e]: ∀(l:List α) (i:Nat),(tR f l).take (i*e)=tR f (l.take i)
 | l,0=>by simp [tR]
 | [],i+1=>by simp [tR]
 | x::l,i+1=>by
   rw [LH,List.take_succ_cons,LH, ←RO l i]
   have:(i+1)*e=(f x).length+i*e:=by rw [Nat.add_mul,hr.len];omega
   rw [this,List.take_append,List.take_of_length_le (by omega)]
   simp
theorem nR [hr:Rw f e] {l:List α} {i:Nat} (hi:i<l.length):((tR f l).drop (i*e)).take e=f l[i]:=by
 have h1:=RO (f:=f) (l.drop i) 1
 rw [Nat.one_mul] at h1
 rw [UD,h1,List.drop_eq_getElem_cons hi,List.take_succ_cons,List.take_zero,LH,uE,List.append_nil]
theorem m9 [hr:Rw f e] {l:List α} {i:Nat} (hi:i<l.length) (y:α):KK (tR f l) (i*e) (f y)=tR f (l.set i y):=by
 have h1:i*e+e=(i+1)*e:=by rw [Nat.add_mul];omega
 rw [KK,hr.len,h1,RO,UD,List.set_eq_take_append_cons_drop,if_pos hi,tL,LH]
theorem dL [hr:Rw f e] {l:List α} {i:Nat} (hi:i<l.length) {c:Nat} (hc:c<e) {t:T} {y:α} (hy:f y=(f l[i]).set c t):(tR f l).set (i*e+c) t=tR f (l.set i y):=by
 rw [←m9 (f:=f) hi y,hy,KK,List.length_set,hr.len]
 have h0:tR f l=(tR f l).take (i*e)++(f l[i]++(tR f l).drop (i*e+e)):=by
  rw [←nR (f:=f) hi, ←List.drop_drop,List.take_append_drop,List.take_append_drop]
 have h1:((tR f l).take (i*e)).length=i*e:=by
  rw [RO,VV,List.length_take];congr 1;omega
 conv=>lhs;rw [h0]
 rw [List.set_append_right _ _ (by rw [h1];omega),h1,Nat.add_sub_cancel_left,List.set_append_left _ _ (by rw [hr.len];exact hc)]
theorem UE {ds:List T} {off:Nat} {t:T} (h:off<ds.length):KK ds off [t]=ds.set off t:=by
 rw [KK,List.length_singleton,List.set_eq_take_append_cons_drop,if_pos h];rfl
theorem SW [hr:Rw f e] {l:List α} {i:Nat} (hi:i<l.length) {c:Nat} {v:Value} {K:Value→Prop} (hc:c<e) (hv:(f l[i])[c]? =some (.c v)) (h:K v):ldc (tR f l) [] (AD (iv i)*e+c) K:=by
 rw [AW];exact ⟨v,by simp only [cell,node,Option.bind_some];rw [O0 hi hc];exact hv,h⟩
theorem TZ [hr:Rw f e] {l:List α} {i:Nat} (hi:i<l.length) {v:Value} {K:Value→Prop} (hv:(f l[i])[0]? =some (.c v)) (h:K v):ldc (tR f l) [] (AD (iv i)*e) K:=
 SW hi (c:=0) (by have:=hr.pos;omega) hv h
theorem P6 [hr:Rw f e] {l:List α} {i:Nat} (hi:i<l.length) {c e':Nat} {ds:List T} {K:Value→Prop} (hc:c<e) (hv:(f l[i])[c]? =some (.l e' ds)) (h:K (iv 0)):ldl (tR f l) [] (AD (iv i)*e+c) e' K:=by
 rw [AW];exact ⟨⟨ds,by simp only [cell,node,Option.bind_some];rw [O0 hi hc];exact hv⟩,h⟩
theorem cE [hr:Rw f e] {l:List α} {i:Nat} (hi:i<l.length) {ks:List CK} {K:List T→Prop} (hn:ks.length=e) (hk:KC ks (f l[i])=true) (h:K (f l[i])):ldg (tR f l) [] (AD (iv i)*e) ks K:=by
 refine ⟨f l[i], ?_,hk,h⟩
 rw [AW,hn];simp only [GB,node];exact nR hi
theorem YO [hr:Rw f e] {l:List α} {i:Nat} (hi:i<l.length) {c e':Nat} {ds:List T} {pre:List Nat} (hc:c<e) (hv:(f l[i])[c]? =some (.l e' ds)):node (tR f l) ((AD (iv i)*e+c)::pre)=node ds pre:=by
 rw [AW];simp only [node,O0 hi hc,hv]
theorem gA [hr:Rw f e] {l:List α} {i:Nat} (hi:i<l.length) {c e':Nat} {ds:List T} (hc:c<e) (hv:(f l[i])[c]? =some (.l e' ds)):FJ (tR f l) [AD (iv i)*e+c]=ds:=by
 have h:=YO hi hc hv (pre:=[])
 simp only [FJ,h];rfl
theorem pH [hr:Rw f e] {l:List α} {i:Nat} (hi:i<l.length) {c e' off:Nat} {ds:List T} {K:Value→Prop} (hc:c<e) (hv:(f l[i])[c]? =some (.l e' ds)) (h:ldc ds [] off K):ldc (tR f l) [AD (iv i)*e+c] off K:=by
 obtain ⟨v,h1,h2⟩:=h
 have h3:=YO hi hc hv (pre:=[])
 refine ⟨v, ?_,h2⟩
 unfold cell at h1 ⊢
 rw [h3];exact h1
theorem oS [hr:Rw f e] {l:List α} {i:Nat} (hi:i<l.length) {c e':Nat} {ds ds':List T} {y:α} (hc:c<e) (hv:(f l[i])[c]? =some (.l e' ds)) (hy:f y=(f l[i]).set c (.l e' ds')):GF (tR f l) [AD (iv i)*e+c] ds'=tR f (l.set i y):=by
 rw [AW]
 simp only [GF,O0 hi hc,hv]
 exact dL hi hc hy
theorem SF [hr:Rw f e] {l:List α} {i:Nat} (hi:i<l.length) {c:Nat} {v w:Value} {y:α} {K:List T→Prop} (hc:c<e) (hv:(f l[i])[c]? =some (.c w)) (hy:f y=(f l[i]).set c (.c v)) (h:K (tR f (l.set i y))):stc (tR f l) [] (AD (iv i)*e+c) v K:=by
 rw [AW]
 have hlt:i*e+c<(tR f l).length:=by
  rw [VV]
  have:(i+1)*e≤l.length*e:=Nat.mul_le_mul_right _ hi
  rw [Nat.add_mul] at this;omega
 refine ⟨⟨w,by simp only [cell,node,Option.bind_some];rw [O0 hi hc];exact hv⟩, ?_⟩
 have:IZ (tR f l) [] (i*e+c) [.c v]=tR f (l.set i y):=by
  simp only [IZ,node,GF]
  rw [UE hlt,dL hi hc hy]
 rw [this];exact h
theorem oX [hr:Rw f e] {l:List α} {i:Nat} (hi:i<l.length) {c e' off:Nat} {v w:Value} {ds:List T} {y:α} {K:List T→Prop} (hc:c<e) (hv:(f l[i])[c]? =some (.l e' ds)) (hw:ds[off]? =some (.c w)) (hy:f y=(f l[i]).set c (.l e' (ds.set off (.c v)))) (h:K (tR f (l.set i y))):stc (tR f l) [AD (iv i)*e+c] off v K:=by
 have hlt:off<ds.length:=(List.getElem?_eq_some_iff.1 hw).1
 have h3:node (tR f l) [AD (iv i)*e+c]=some ds:=YO hi hc hv (pre:=[])
 refine ⟨⟨w,by unfold cell;rw [h3];exact hw⟩, ?_⟩
 have:IZ (tR f l) [AD (iv i)*e+c] off [.c v]=tR f (l.set i y):=by
  unfold IZ
  rw [h3]
  simp only
  rw [UE hlt,oS hi hc hv hy]
 rw [this];exact h
theorem QG [hr:Rw f e] {l:List α} {i:Nat} (hi:i<l.length) {ts:List T} {y:α} {K:List T→Prop} (hy:ts=f y) (h:K (tR f (l.set i y))):stg (tR f l) [] (AD (iv i)*e) ts K:=by
 subst hy
 rw [AW]
 refine ⟨⟨_,rfl, ?_⟩, ?_⟩
 ·rw [hr.len,VV]
  have:(i+1)*e≤l.length*e:=Nat.mul_le_mul_right _ hi
  rw [Nat.add_mul] at this;omega
 ·have:IZ (tR f l) [] (i*e) (f y)=tR f (l.set i y):=by
   simp only [IZ,node,GF];exact m9 hi y
  rw [this];exact h
theorem eU [hr:Rw f e] {cur:List α} {i:Nat} (hi:i<cur.length) {y y':α} {c:Nat} {v w:Value} {K:List T→Prop} (hc:c<e) (hv:(f y)[c]? =some (.c w)) (hy:f y'=(f y).set c (.c v)) (h:K (tR f (cur.set i y'))):stc (tR f (cur.set i y)) [] (AD (iv i)*e+c) v K:=
 SF (l:=cur.set i y) (by simpa using hi) (y:=y') hc (by rw [List.getElem_set_self];exact hv) (by rw [List.getElem_set_self];exact hy) (by rw [List.set_set];exact h)
theorem mN [hr:Rw f e] {cur:List α} {i:Nat} (hi:i<cur.length) {y:α} {c e':Nat} {ds:List T} (hc:c<e) (hv:(f y)[c]? =some (.l e' ds)):FJ (tR f (cur.set i y)) [AD (iv i)*e+c]=ds:=
 gA (l:=cur.set i y) (by simpa using hi) hc (by rw [List.getElem_set_self];exact hv)
theorem X7 [hr:Rw f e] {cur:List α} {i:Nat} (hi:i<cur.length) {y:α} {c e':Nat} {ds:List T} {K:Value→Prop} (hc:c<e) (hv:(f y)[c]? =some (.l e' ds)) (h:K (iv 0)):ldl (tR f (cur.set i y)) [] (AD (iv i)*e+c) e' K:=
 P6 (l:=cur.set i y) (by simpa using hi) hc (by rw [List.getElem_set_self];exact hv) h
theorem Q6 [hr:Rw f e] {cur:List α} {i:Nat} (hi:i<cur.length) {y:α} {c:Nat} {v:Value} {K:Value→Prop} (hc:c<e) (hv:(f y)[c]? =some (.c v)) (h:K v):ldc (tR f (cur.set i y)) [] (AD (iv i)*e+c) K:=
 SW (l:=cur.set i y) (by simpa using hi) hc (by rw [List.getElem_set_self];exact hv) h
theorem oV {cur:List α} {i:Nat} (hi:i<cur.length):tR f cur=tR f (cur.set i cur[i]):=by rw [List.set_getElem_self]
theorem fS (n:Nat) (x:α):PO n (f x)=tR f (List.replicate n x):=by
 simp only [PO,tR]
 induction n with
 | zero=>rfl
 | succ n ih=>rw [List.replicate_succ,List.replicate_succ,List.flatten_cons,List.flatMap_cons,ih]
theorem qM [hr:Rw f e] (l:List α) (a m:Nat):GB (tR f l) [] (a*e) (m*e)=tR f ((l.drop a).take m):=by
 simp only [GB,node]
 rw [UD,RO]
end
theorem C9 (l:List Int) (n:Int):tI l++[T.c (I n)]=tI (l++[n]):=by simp [tI]
theorem iJ (l:List ByteArray) (n:ByteArray):tS l++[T.c (.string n)]=tS (l++[n]):=by simp [tS]
theorem tU {l:List Int} {j:Nat} (hj:j<l.length):(tI l)[j]? =some (.c (I l[j])):=by simp [tI,hj]
theorem sJ {l:List Int} {j:Nat} {v:Int}:(tI l).set j (.c (I v))=tI (l.set j v):=by simp [tI,List.map_set]
end Go.Proofs.Ytklmcfpgdfibnaa.Eng
namespace Go.Proofs.Ytklmcfpgdfibnaa.Eng
open Go Go.RowKit
set_option linter.unusedVariables false
def Rdt {α:Type} (d:Kind α) (t:α→List T):Prop:=(∀x,(t x).length=d.sz)∧ ∀s x cs,d.E s x cs→ ∃F,TRs s false (t x) cs F
theorem tV:Rdt (tM .u8) fun n=>[.c (.int .u8 n)]:=⟨fun _=>rfl,fun s x cs h=>⟨[],by subst h;simp [TRs,TR,plain]⟩⟩
theorem eV {α:Type} {d:Kind α} {t:α→List T} (hd:Rdt d t) {s:St}: ∀(xs:List α) (cells:List Value),cells.length=xs.length*d.sz→(∀(i:Nat) x,xs[i]? =some x→d.E s x ((cells.drop (i*d.sz)).take d.sz))→ ∃F,TRs s false (xs.flatMap t) cells F
 | [],cells,hl,_=>⟨[],by
     have:cells=[]:=List.length_eq_zero_iff.1 (by simpa using hl)
     subst this;simp [TRs]⟩
 | x::xs,cells,hl,h=>by
   have h0:=h 0 x rfl
   rw [Nat.zero_mul,List.drop_zero] at h0
   obtain ⟨F1,g1⟩:=hd.2 s x _ h0
   rw [List.length_cons,Nat.add_mul,Nat.one_mul] at hl
   obtain ⟨F2,g2⟩:=eV hd xs (cells.drop d.sz) (by rw [List.length_drop];omega) (fun i y hy=>by
    have:=h (i+1) y (by simpa using hy)
    rwa [Nat.add_mul,Nat.one_mul,Nat.add_comm, ←List.drop_drop] at this)
   refine ⟨F1++F2, ?_⟩
   rw [List.flatMap_cons]
   exact KH.2 ⟨cells.take d.sz,cells.drop d.sz,F1,F2,(List.take_append_drop _ _).symm,g1,g2,rfl⟩
theorem S0 {α:Type} {t:α→List T} {n:Nat} (h: ∀x,(t x).length=n): ∀xs:List α,(xs.flatMap t).length=xs.length*n
 | []=>by simp
 | x::xs=>by rw [List.flatMap_cons,List.length_append,h,S0 h xs,List.length_cons,Nat.add_mul];omega
theorem sA {α:Type} {d:Kind α} {t:α→List T} {hsz:0<d.sz} (hd:Rdt d t):Rdt (kSl d hsz) fun xs=>[.l d.sz (xs.flatMap t)]:=
 ⟨fun _=>rfl,fun s xs cs ⟨v,h,cells,⟨h1,h2⟩,h3⟩=>by
  subst h
  obtain ⟨F,hF⟩:=eV hd xs cells h1 h3
  have hlen:=S0 hd.1 xs
  rcases h2 with ⟨rfl,h0⟩ | ⟨b,off,ob,rfl,g1,g2,g3⟩
  ·have:xs=[]:=List.length_eq_zero_iff.1 h0
   subst this
   exact ⟨[],GP.2 ⟨nl,rfl,by simp [TR]⟩⟩
  ·refine ⟨b::F,GP.2 ⟨_,rfl,GA.2 (.inr ⟨b,off,xs.length,rfl,hlen,ob,F,g1,fun h=>(by cases h),by rw [hlen];exact g2, ?_,rfl⟩)⟩⟩
   rw [hlen,g3];exact hF⟩
theorem mP {C:Ctx} {ρ:Rho} {s:St} {f:FuncId} {g:Sg} {es args sv:List Value} {vs:List Value} {cs:List (List T)} {D:List Nat} (hr:Rel C ρ s C.w0) (ht: ∀h,s.n≤h→ρ h=none) (ha:EF (VR ρ) es args) (hp:OS s g.ps es vs cs sv [] D) (hg:g.rs=[(0,[.v])])
  (h:cl2 C f g vs cs fun vs' _=>vs'.head?=some (.bool true)):Calls C.P f args.toArray C.w0 fun e W'=>e= .returned (.bool true)∧Below C.w0.heap.size C.w0 W':=by
 obtain ⟨v,s',M',vs',cs',⟨hn,hgo⟩,_,hres,_,_,_,hk⟩:=h s es sv [] D hp List.nodup_nil (fun x hx=>by simp at hx)
 refine Calls.mono (hgo ρ C.w0 args (fun x h1 h2=>ht x h1) hr ha) fun e W' he=> ?_
 cases e with
 | returned u=>
   obtain ⟨ρ',_,hrel,hv⟩:=he
   obtain ⟨as',v1,v2,c1,c2,c3,M1,M2,M3,e1,e2,e3,e4,e5,hV,_,_⟩:=hres.ex
   rw [hg] at hV
   simp only [WR,MR] at hV
   obtain ⟨a,as2,us,w1,w2,d1,d2,N1,N2,rfl,rfl,rfl,⟨u1,us',vs1,rfl,rfl,_,rfl,rfl,_,_⟩,⟨rfl,rfl,_,_⟩,hu,_⟩:=hV
   subst e3
   simp only [List.cons_append,List.head?_cons,Option.some.injEq] at hk
   subst hk
   simp only [List.cons.injEq,and_true] at hu
   subst hu
   rw [e1] at hv
   have:u= .bool true:=hv
   exact ⟨by rw [this],hrel.bel⟩
 | outgrown=>exact he.elim
 | panicked x=>exact he.elim
end Go.Proofs.Ytklmcfpgdfibnaa.Eng
namespace Go.Proofs.Ytklmcfpgdfibnaa.Eng
open Go Go.RowKit
set_option linter.unusedVariables false
structure AE where
 live:Bool
 gen:Int
 site:Int
 holds:Int
 roots:Int
 count:Int
 field:List Int
 purple:Bool
structure Wk where
 used:Bool
 target:Int
structure Op5 where
 kind:Int
 a:Int
 b:Int
 c:Int
 site:ByteArray
structure An where
 code:Int
 val:Int
 freed:List Int
structure Nd where
 live:Bool
 gen:Int
 site:Int
 holds:Int
 roots:Int
 field:List Int
structure Hp where
 AB:List AE
 B2:List Wk
 buffer:List Int
 sites:List ByteArray
def tO (o:AE):List T:=[.c (.bool o.live), .c (I o.gen), .c (I o.site), .c (I o.holds), .c (I o.roots), .c (I o.count), .l 1 (tI o.field), .c (.bool o.purple)]
def tW (w:Wk):List T:=[.c (.bool w.used), .c (I w.target)]
def tP (o:Op5):List T:=[.c (I o.kind), .c (I o.a), .c (I o.b), .c (I o.c), .c (.string o.site)]
def tA (a:An):List T:=[.c (I a.code), .c (I a.val), .l 1 (tI a.freed)]
def tN (n:Nd):List T:=[.c (.bool n.live), .c (I n.gen), .c (I n.site), .c (I n.holds), .c (I n.roots), .l 1 (tI n.field)]
instance rwO:Rw tO 8:=⟨by omega,fun _=>rfl⟩
instance rwW:Rw tW 2:=⟨by omega,fun _=>rfl⟩
instance rwP:Rw tP 5:=⟨by omega,fun _=>rfl⟩
instance rwA:Rw tA 3:=⟨by omega,fun _=>rfl⟩
instance rwN:Rw tN 6:=⟨by omega,fun _=>rfl⟩
theorem AI (l:List AE):cnt 8 (tR tO l)=l.length:=US l
theorem AU (l:List Wk):cnt 2 (tR tW l)=l.length:=US l
theorem AL (l:List Op5):cnt 5 (tR tP l)=l.length:=US l
theorem AR (l:List An):cnt 3 (tR tA l)=l.length:=US l
theorem AQ (l:List Nd):cnt 6 (tR tN l)=l.length:=US l
theorem o4 (l:List AE) (x:AE):tR tO l++[T.c (.bool x.live), .c (I x.gen), .c (I x.site), .c (I x.holds), .c (I x.roots), .c (I x.count), .l 1 (tI x.field), .c (.bool x.purple)]=tR tO (l++[x]):=YE l x
theorem YY (l:List Wk):flat (tR tW l)=true:=by
 simp only [flat,tR,List.all_flatMap,List.all_eq_true];intro x _ t ht
 simp only [tW,List.mem_cons,List.not_mem_nil,or_false] at ht
 rcases ht with rfl | rfl <;> rfl
theorem hH (l:List Op5):flat (tR tP l)=true:=by
 simp only [flat,tR,List.all_flatMap,List.all_eq_true];intro x _ t ht
 simp only [tP,List.mem_cons,List.not_mem_nil,or_false] at ht
 rcases ht with rfl | rfl | rfl | rfl | rfl <;> rfl
section
variable {l:List AE} {i:Nat} {K:List T→Prop}
theorem oG {v:Int} (hi:i<l.length) (h:K (tR tO (l.set i {l[i] with gen:=v}))):stc (tR tO l) [] (AD (iv i)*8+1) (I v) K:=SF hi (by decide) rfl rfl h
theorem jW {v:Int} (hi:i<l.length) (h:K (tR tO (l.set i {l[i] with holds:=v}))):stc (tR tO l) [] (AD (iv i)*8+3) (I v) K:=SF hi (by decide) rfl rfl h
theorem iN {v:Int} (hi:i<l.length) (h:K (tR tO (l.set i {l[i] with count:=v}))):stc (tR tO l) [] (AD (iv i)*8+5) (I v) K:=SF hi (by decide) rfl rfl h
theorem jA {j:Nat} {v:Int} (hi:i<l.length) (hj:j<l[i].field.length) (h:K (tR tO (l.set i {l[i] with field:=l[i].field.set j v}))):stc (tR tO l) [AD (iv i)*8+6] (AD (iv j)*1) (I v) K:=by
 rw [AW j,Nat.mul_one]
 exact oX hi (by decide) rfl (tU hj) (by simp only [sJ];rfl) h
end
def gI (l:List Int) (i:Nat):Int:=l.getD i 0
def gS (l:List ByteArray) (i:Nat):ByteArray:=l.getD i ⟨#[]⟩
theorem DB {l:List Int} {i:Nat} (h:i<l.length):l[i]=gI l i:=by simp [gI,h]
theorem RM {l:List ByteArray} {i:Nat} (h:i<l.length):l[i]=gS l i:=by simp [gS,h]
theorem ldI {l:List Int} {i:Nat} {K:Value→Prop} (hi:i<l.length) (h:K (I (gI l i))):ldc (tI l) [] (AD (iv i)*1) K:=by rw [←DB hi] at h;exact lX hi h
theorem ldS {l:List ByteArray} {i:Nat} {K:Value→Prop} (hi:i<l.length) (h:K (.string (gS l i))):ldc (tS l) [] (AD (iv i)*1) K:=by rw [←RM hi] at h;exact tX hi h
def ob (l:List AE) (i:Nat):AE:=l.getD i ⟨false,0,0,0,0,0,[],false⟩
theorem DC {l:List AE} {i:Nat} (h:i<l.length):l[i]=ob l i:=by simp [ob,h]
theorem V9 {l:List AE} {i:Nat} {K:List T→Prop} (hi:i<l.length) (h:K (tO (ob l i))):ldg (tR tO l) [] (AD (iv i)*8) [.c, .c, .c, .c, .c, .c, .l 1, .c] K:=by rw [←DC hi] at h;exact cE hi rfl rfl h
theorem JG {l:List AE} {i c:Nat} {v:Value} {K:Value→Prop} (hi:i<l.length) (hc:c<8) (hv:(tO (ob l i))[c]? =some (.c v)) (h:K v):ldc (tR tO l) [] (AD (iv i)*8+c) K:=by rw [←DC hi] at hv;exact SW hi hc hv h
theorem KJ {l:List AE} {i:Nat} {v:Value} {K:Value→Prop} (hi:i<l.length) (hv:(tO (ob l i))[0]? =some (.c v)) (h:K v):ldc (tR tO l) [] (AD (iv i)*8) K:=by rw [←DC hi] at hv;exact TZ hi hv h
def wk (l:List Wk) (i:Nat):Wk:=l.getD i ⟨false,0⟩
theorem bK {l:List Wk} {i:Nat} (h:i<l.length):l[i]=wk l i:=by simp [wk,h]
theorem tB {l:List Wk} {i:Nat} {K:List T→Prop} (hi:i<l.length) (h:K (tW (wk l i))):ldg (tR tW l) [] (AD (iv i)*2) [.c, .c] K:=by rw [←bK hi] at h;exact cE hi rfl rfl h
theorem rW {l:List Wk} {i c:Nat} {v:Value} {K:Value→Prop} (hi:i<l.length) (hc:c<2) (hv:(tW (wk l i))[c]? =some (.c v)) (h:K v):ldc (tR tW l) [] (AD (iv i)*2+c) K:=by rw [←bK hi] at hv;exact SW hi hc hv h
theorem UC {l:List Wk} {i:Nat} {v:Value} {K:Value→Prop} (hi:i<l.length) (hv:(tW (wk l i))[0]? =some (.c v)) (h:K v):ldc (tR tW l) [] (AD (iv i)*2) K:=by rw [←bK hi] at hv;exact TZ hi hv h
def po (l:List Op5) (i:Nat):Op5:=l.getD i ⟨0,0,0,0,⟨#[]⟩⟩
theorem rR {l:List Op5} {i:Nat} (h:i<l.length):l[i]=po l i:=by simp [po,h]
theorem uF {l:List Op5} {i:Nat} {K:List T→Prop} (hi:i<l.length) (h:K (tP (po l i))):ldg (tR tP l) [] (AD (iv i)*5) [.c, .c, .c, .c, .c] K:=by rw [←rR hi] at h;exact cE hi rfl rfl h
def an (l:List An) (i:Nat):An:=l.getD i ⟨0,0,[]⟩
def nd (l:List Nd) (i:Nat):Nd:=l.getD i ⟨false,0,0,0,0,[]⟩
theorem HF {l:List AE} {i:Nat} (hi:i<l.length):FJ (tR tO l) [AD (iv i)*8+6]=tI (ob l i).field:=by rw [←DC hi];exact gA hi (by decide) rfl
theorem JE {l:List AE} {i j:Nat} {K:Value→Prop} (hi:i<l.length) (hj:j<(ob l i).field.length) (h:K (I (gI (ob l i).field j))):ldc (tR tO l) [AD (iv i)*8+6] (AD (iv j)*1) K:=by
 rw [←DB hj] at h
 have e:=DC hi
 exact pH hi (by decide) (ds:=tI (ob l i).field) (by rw [e];rfl) (lX hj h)
theorem QE {l:List AE} {i:Nat} {K:Value→Prop} (hi:i<l.length) (h:K (iv 0)):ldl (tR tO l) [] (AD (iv i)*8+6) 1 K:=P6 hi (by decide) rfl h
end Go.Proofs.Ytklmcfpgdfibnaa.Eng
