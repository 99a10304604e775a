/- A part of the proof. -/
import Derived.Test.YthapfcoajahegaaDoorReEngM5
import Derived.Test.YthapfcoajahegaaDoorReEngM2
namespace Go.Proofs.YthapfcoajahegaaDoor.Eng
open Go Go.RowKit
set_option linter.unusedVariables false
set_option linter.unusedSimpArgs false
abbrev I (n:Int):Value:= .int .i64 n
def F64 (n:Int):Prop:= -2^63≤n∧n<2^63
theorem PZ {n:Int} (h:F64 n):IntKind.i64.wrap n=n:=by
 obtain ⟨h1,h2⟩:=h
 rw [IntKind.wrap_i64];omega
theorem DF {v:Value} {K:Value→Prop} (hp:plain v=true) (h:K v):prP (some v) K:=⟨v,rfl,hp,h⟩
theorem CC {a b:Int} {K:Value→Prop} (hf:F64 (a+b)) (h:K (I (a+b))):prP (bnI .add (I a) (I b)) K:=DF (v:= .int .i64 (IntKind.i64.wrap (a+b))) rfl (by rw [PZ hf];exact h)
theorem C8 {a b:Int} {K:Value→Prop} (hf:F64 (a-b)) (h:K (I (a-b))):prP (bnI .sub (I a) (I b)) K:=DF (v:= .int .i64 (IntKind.i64.wrap (a-b))) rfl (by rw [PZ hf];exact h)
theorem Y2 {a b:Int} {K:Value→Prop} (hf:F64 (a*b)) (h:K (I (a*b))):prP (bnI .mul (I a) (I b)) K:=DF (v:= .int .i64 (IntKind.i64.wrap (a*b))) rfl (by rw [PZ hf];exact h)
theorem A4 {a b:Int} {K:Value→Prop} (h:K (.bool (decide (a<b)))):prP (bnI .lss (I a) (I b)) K:=DF rfl h
theorem CZ {a b:Int} {K:Value→Prop} (h:K (.bool (decide (a≤b)))):prP (bnI .leq (I a) (I b)) K:=DF rfl h
theorem CX {a b:Int} {K:Value→Prop} (h:K (.bool (decide (a>b)))):prP (bnI .gtr (I a) (I b)) K:=DF rfl h
theorem C0 {a b:Int} {K:Value→Prop} (h:K (.bool (decide (a≥b)))):prP (bnI .geq (I a) (I b)) K:=DF rfl h
theorem oZ {a b:Int} {K:Value→Prop} (h:K (.bool (a != b))):prP (bnI .neq (I a) (I b)) K:=DF rfl h
theorem CJ {b:Bool} {K:Value→Prop} (h:K (.bool !b)):prP (un .not (.bool b)) K:=DF rfl h
theorem Y4 {a b:ByteArray} {K:Value→Prop} (h:K (.bool (a.toList==b.toList))):prP (bnS .eql (.string a) (.string b)) K:=DF rfl h
theorem lO {a b:ByteArray} {K:Value→Prop} (h:K (.bool !(a.toList==b.toList))):prP (bnS .neq (.string a) (.string b)) K:=DF rfl h
theorem CD {a b:ByteArray} {K:Value→Prop} (hs:a.size+b.size<2^63) (h:K (.string (a++b))):prP (bnS .add (.string a) (.string b)) K:=by
 refine ⟨.string (a++b), ?_,rfl,h⟩
 have: ¬((a.size+b.size:Nat):Int)>IntKind.i64.max:=by simp only [IntKind.max];simp only [IntKind.signed,IntKind.bits];simp;omega
 simp only [bnS,if_neg this]
theorem DH {a:ByteArray} {K:Value→Prop} (h:K (I a.size)):prP (lnS (.string a)) K:=DF rfl h
theorem ES {b:Bool} {p q:Prop} (h1:b=true→p) (h2:b=false→q):AY (.bool b) p q:=by
 cases b
 ·exact .inr ⟨rfl,h2 rfl⟩
 ·exact .inl ⟨rfl,h1 rfl⟩
theorem A8 {c:Prop} [Decidable c] {p q:Prop} (h1:c→p) (h2: ¬c→q):AY (.bool (decide c)) p q:=
 ES (fun h=>h1 (of_decide_eq_true h)) (fun h=>h2 (of_decide_eq_false h))
theorem j9 {cs:List T} {off:Nat} {v:Value} {K:Value→Prop} (hc:cs[off]? =some (.c v)) (h:K v):ldc cs [] off K:=⟨v,by simpa [cell,node] using hc,h⟩
def tI (l:List Int):List T:=l.map fun n=> .c (I n)
def tS (l:List ByteArray):List T:=l.map fun n=> .c (.string n)
theorem AI (l:List Int):cnt 1 (tI l)=l.length:=by simp [cnt,tI]
theorem AJ (l:List ByteArray):cnt 1 (tS l)=l.length:=by simp [cnt,tS]
theorem EF {l:List Int} {i:Nat} {K:Value→Prop} (hi:i<l.length) (h:K (I l[i])):ldc (tI l) [] (AB (iv i)*1) K:=
 j9 (by rw [BB,Nat.mul_one];simp [tI,hi]) h
theorem ER {l:List ByteArray} {i:Nat} {K:Value→Prop} (hi:i<l.length) (h:K (.string l[i])):ldc (tS l) [] (AB (iv i)*1) K:=
 j9 (by rw [BB,Nat.mul_one];simp [tS,hi]) h
theorem rB {l:List Int} {i:Nat} {v:Int} {K:List T→Prop} (hi:i<l.length) (h:K (tI (l.set i v))):stc (tI l) [] (AB (iv i)*1) (I v) K:=by
 rw [BB,Nat.mul_one]
 refine ⟨⟨I l[i],by simp [cell,node,tI,hi]⟩, ?_⟩
 have:KT (tI l) [] i [.c (I v)]=tI (l.set i v):=by
  simp only [KT,node,IG,LU,tI,List.length_singleton]
  rw [List.set_eq_take_append_cons_drop,if_pos hi]
  simp [List.map_take,List.map_drop]
 rw [this];exact h
theorem kG {F:J2→J2} (xs:Nat→List Value) (cs:Nat→List (List T)) (n:Nat) (P:Nat→Prop) (h: ∀(R:J2) i,i≤n→P i→(i<n→P (i+1)→R (xs (i+1)) (cs (i+1)))→F R (xs i) (cs i)) {i:Nat} (hi:i≤n) (hP:P i):A6 F (xs i) (cs i):=by
 intro R hR
 obtain ⟨k,hk⟩: ∃k,n=i+k:=⟨n-i,by omega⟩
 induction k generalizing i with
 | zero=>exact hR _ _ (h R i hi hP fun hlt=>by omega)
 | succ k ih=>exact hR _ _ (h R i hi hP fun hlt hp=>ih hlt hp (by omega))
theorem DZ {F:J2→J2} {xs0:List Value} {cs0:List (List T)} (xs:Nat→List Value) (cs:Nat→List (List T)) (n:Nat) (P:Nat→Prop) (hx:xs0=xs 0) (hc:cs0=cs 0) (hP:P 0) (h: ∀(R:J2) i,i≤n→P i→(i<n→P (i+1)→R (xs (i+1)) (cs (i+1)))→F R (xs i) (cs i)):A6 F xs0 cs0:=by
 subst hx;subst hc;exact kG xs cs n P h (Nat.zero_le _) hP
theorem A5 {n j:Nat} {K:Value→Prop} (hj:j<n) (h:K (iv j)):ixW n (iv j) K:=⟨.i64,j,rfl,hj,h⟩
theorem AZ {j:Nat} {K:Value→Prop} (hf:(j:Int)+1<2^63) (h:K (iv (j+1))):prP (bnI .add (iv j) (I 1)) K:=CC (a:=Int.ofNat j) ⟨by have:=Int.natCast_nonneg j;simp only [Int.ofNat_eq_natCast] at*;omega,by simpa using hf⟩ h
theorem nZ {a b:Nat} {K:Value→Prop} (h:K (.bool (decide (a<b)))):prP (bnI .lss (iv a) (iv b)) K:=A4 (a:=Int.ofNat a) (b:=Int.ofNat b) (by
 have:decide (Int.ofNat a<Int.ofNat b)=decide (a<b):=by simp
 rw [this];exact h)
end Go.Proofs.YthapfcoajahegaaDoor.Eng
namespace Go.Proofs.YthapfcoajahegaaDoor.Eng
open Go Go.RowKit
set_option linter.unusedVariables false
set_option linter.unusedSimpArgs false
def w64 (n:Int):Int:=IntKind.i64.wrap n
theorem JU {n:Int} (h:F64 n):w64 n=n:=PZ h
theorem BV {a b:Int} {K:Value→Prop} (h:K (I (w64 (a+b)))):prP (bnI .add (I a) (I b)) K:=DF rfl h
theorem B6 {a b:Int} {K:Value→Prop} (h:K (I (w64 (a-b)))):prP (bnI .sub (I a) (I b)) K:=DF rfl h
theorem B8 {a b:Int} {K:Value→Prop} (h:K (.bool (decide (a=b)))):prP (bnI .eql (I a) (I b)) K:=DF rfl h
theorem CB {a b:Int} {K:Value→Prop} (h:K (.bool (decide (a≠b)))):prP (bnI .neq (I a) (I b)) K:=by
 refine oZ ?_
 have:(a != b)=decide (a≠b):=by rw [Bool.eq_iff_iff];simp
 rw [this];exact h
theorem C2 {a b:Int} {K:Value→Prop} (ha:0≤a) (hb:0<b) (h:K (I (a % b))):prP (bnI .rem (I a) (I b)) K:=by
 refine ⟨.int .i64 (a.tmod b), ?_,rfl, ?_⟩
 ·simp [bnI];omega
 ·rw [Int.tmod_eq_emod_of_nonneg ha];exact h
theorem DP {a b:Int} {K:Value→Prop} (ha:0≤a) (hf:F64 a) (hb:0<b) (h:K (I (a/b))):prP (bnI .quo (I a) (I b)) K:=by
 have hd:a.tdiv b=a/b:=Int.tdiv_eq_ediv_of_nonneg ha
 have h1:0≤a/b:=Int.ediv_nonneg ha (by omega)
 have h2:a/b≤a:=Int.ediv_le_self _ ha
 refine ⟨.int .i64 (IntKind.i64.wrap (a.tdiv b)), ?_,rfl, ?_⟩
 ·simp [bnI];omega
 ·rw [hd,PZ ⟨by omega,by have:=hf.2;omega⟩];exact h
theorem BY {c:Prop} [Decidable c] {K:Value→Prop} (h:K (.bool (decide ¬c))):prP (un .not (.bool (decide c))) K:=by
 refine CJ ?_
 have:(!decide c)=decide ¬c:=by simp
 rw [this];exact h
theorem BU {c:Prop} [Decidable c] {K:Value→Prop} (h:K (.bool (decide c))):prP (un .not (.bool (decide ¬c))) K:=by
 refine CJ ?_
 have:(!decide ¬c)=decide c:=by simp
 rw [this];exact h
theorem c9 {a b:ByteArray} (h:a.toList=b.toList):a=b:=by
 rw [ByteArray.toList_eq,ByteArray.toList_eq] at h
 exact ByteArray.ext (Array.ext' h)
theorem B7 {a b:ByteArray} {K:Value→Prop} (h:K (.bool (decide (a=b)))):prP (bnS .eql (.string a) (.string b)) K:=by
 refine Y4 ?_
 have:(a.toList==b.toList)=decide (a=b):=by
  rw [Bool.eq_iff_iff,beq_iff_eq,decide_eq_true_eq];exact ⟨c9,fun h=>by rw [h]⟩
 rw [this];exact h
theorem CE {a b:ByteArray} {K:Value→Prop} (h:K (.bool (decide (a≠b)))):prP (bnS .neq (.string a) (.string b)) K:=by
 refine lO ?_
 have:(!(a.toList==b.toList))=decide (a≠b):=by
  rw [Bool.eq_iff_iff,Bool.not_eq_true',beq_eq_false_iff_ne,decide_eq_true_eq]
  exact ⟨fun h1 h2=>h1 (by rw [h2]),fun h1 h2=>h1 (c9 h2)⟩
 rw [this];exact h
theorem DN {a b:Bool} {K:Value→Prop} (h:K (.bool (decide (a=b)))):prP (bnB .eql (.bool a) (.bool b)) K:=DF (v:= .bool (a==b)) rfl (by
 have:(a==b)=decide (a=b):=by cases a <;> cases b <;> rfl
 rw [this];exact h)
theorem DR {a b:Bool} {K:Value→Prop} (h:K (.bool (decide (a≠b)))):prP (bnB .neq (.bool a) (.bool b)) K:=DF (v:= .bool !(a==b)) rfl (by
 have:(!(a==b))=decide (a≠b):=by cases a <;> cases b <;> rfl
 rw [this];exact h)
theorem DG {b:Bool} {p q:Prop} (hb:b=true) (h:p):AY (.bool b) p q:= .inl ⟨by rw [hb],h⟩
theorem B5 {b:Bool} {p q:Prop} (hb:b=false) (h:q):AY (.bool b) p q:= .inr ⟨by rw [hb],h⟩
theorem BW {c:Prop} [Decidable c] {p q:Prop} (hc:c) (h:p):AY (.bool (decide c)) p q:=DG (decide_eq_true hc) h
theorem CW {c:Prop} [Decidable c] {p q:Prop} (hc: ¬c) (h:q):AY (.bool (decide c)) p q:=B5 (decide_eq_false hc) h
theorem IQ {b:Bool} {q:Prop} (h:q):gE (.bool b) q:=⟨rfl,h⟩
theorem KN {q:Prop} (h:q):gE undef q:=⟨rfl,h⟩
theorem GD {w a:Bool} {m:(Value→Prop)→Prop} {K:Value→Prop} (ha:a=w) (h:m K):gP (.bool a) w m K:= .inl ⟨by rw [ha],h⟩
theorem O5 {w a:Bool} {m:(Value→Prop)→Prop} {K:Value→Prop} (ha:a= !w) (h:K undef):gP (.bool a) w m K:= .inr ⟨.inl (by rw [ha]),h⟩
theorem DO {a:Bool} {m:(Value→Prop)→Prop} {K:Value→Prop} (ha:a=false) (h:K undef):gP (.bool a) true m K:=O5 ha h
theorem DM {a:Bool} {m:(Value→Prop)→Prop} {K:Value→Prop} (ha:a=true) (h:K undef):gP (.bool a) false m K:=O5 ha h
theorem HV {m:(Value→Prop)→Prop} {K:Value→Prop} (h:m K):gP (.bool true) true m K:=GD rfl h
theorem H3 {m:(Value→Prop)→Prop} {K:Value→Prop} (h:m K):gP (.bool false) false m K:=GD rfl h
theorem HW {m:(Value→Prop)→Prop} {K:Value→Prop} (h:K undef):gP (.bool true) false m K:=O5 rfl h
theorem HG {m:(Value→Prop)→Prop} {K:Value→Prop} (h:K undef):gP (.bool false) true m K:=O5 rfl h
theorem JK {w:Bool} {m:(Value→Prop)→Prop} {K:Value→Prop} (h:K undef):gP undef w m K:= .inr ⟨.inr rfl,h⟩
theorem HF {a:Bool} {m:(Value→Prop)→Prop} {K:Value→Prop} (h1:a=true→m K) (h2:a=false→K undef):gP (.bool a) true m K:=by
 cases a
 ·exact O5 rfl (h2 rfl)
 ·exact GD rfl (h1 rfl)
theorem HM {a:Bool} {m:(Value→Prop)→Prop} {K:Value→Prop} (h1:a=false→m K) (h2:a=true→K undef):gP (.bool a) false m K:=by
 cases a
 ·exact GD rfl (h1 rfl)
 ·exact O5 rfl (h2 rfl)
theorem G5 {c:Prop} [Decidable c] {m:(Value→Prop)→Prop} {K:Value→Prop} (h1:c→m K) (h2: ¬c→K undef):gP (.bool (decide c)) true m K:=
 HF (fun h=>h1 (of_decide_eq_true h)) fun h=>h2 (of_decide_eq_false h)
theorem HS {c:Prop} [Decidable c] {m:(Value→Prop)→Prop} {K:Value→Prop} (h1: ¬c→m K) (h2:c→K undef):gP (.bool (decide c)) false m K:=
 HM (fun h=>h1 (of_decide_eq_false h)) fun h=>h2 (of_decide_eq_true h)
theorem HA {c:Prop} [Decidable c] {m:(Value→Prop)→Prop} {K:Value→Prop} (hc:c) (h:m K):gP (.bool (decide c)) true m K:=GD (decide_eq_true hc) h
theorem HN {c:Prop} [Decidable c] {m:(Value→Prop)→Prop} {K:Value→Prop} (hc: ¬c) (h:K undef):gP (.bool (decide c)) true m K:=O5 (decide_eq_false hc) h
theorem HY {c:Prop} [Decidable c] {m:(Value→Prop)→Prop} {K:Value→Prop} (hc:c) (h:K undef):gP (.bool (decide c)) false m K:=O5 (decide_eq_true hc) h
theorem GV {c:Prop} [Decidable c] {m:(Value→Prop)→Prop} {K:Value→Prop} (hc: ¬c) (h:m K):gP (.bool (decide c)) false m K:=GD (decide_eq_false hc) h
theorem JT {c:Prop} [Decidable c] {a b:Value} {K:Value→Prop} (hc:c) (hp:plain a=true) (h:K a):prP (pk (.bool (decide c)) a b) K:=by rw [decide_eq_true hc];exact DF hp h
theorem JJ {c:Prop} [Decidable c] {a b:Value} {K:Value→Prop} (hc: ¬c) (hp:plain b=true) (h:K b):prP (pk (.bool (decide c)) a b) K:=by rw [decide_eq_false hc];exact DF hp h
theorem J8 {x:Bool} {a b:Value} {K:Value→Prop} (hc:x=true) (hp:plain a=true) (h:K a):prP (pk (.bool x) a b) K:=by rw [hc];exact DF hp h
theorem KI {x:Bool} {a b:Value} {K:Value→Prop} (hc:x=false) (hp:plain b=true) (h:K b):prP (pk (.bool x) a b) K:=by rw [hc];exact DF hp h
theorem HU {c:Prop} [Decidable c] {a b:Value} {K:Value→Prop} (hp:plain a=true) (hq:plain b=true) (h1:c→K a) (h2: ¬c→K b):prP (pk (.bool (decide c)) a b) K:=by
 by_cases h:c
 ·exact JT h hp (h1 h)
 ·exact JJ h hq (h2 h)
theorem HT {c:Bool} {a b:Value} {K:Value→Prop} (hp:plain a=true) (hq:plain b=true) (h1:c=true→K a) (h2:c=false→K b):prP (pk (.bool c) a b) K:=by
 cases h:c
 ·exact KI rfl hq (h2 h)
 ·exact J8 rfl hp (h1 h)
theorem qM {c:Prop} [Decidable c] {v:Value} (hc:c):BX (.bool (decide c)) true v=v:=by rw [decide_eq_true hc];rfl
theorem rA {c:Prop} [Decidable c] {v:Value} (hc: ¬c):BX (.bool (decide c)) false v=v:=by rw [decide_eq_false hc];rfl
theorem oS {c:Prop} [Decidable c] {v:Value} (hc:c):BX (.bool (decide c)) false v=undef:=by rw [decide_eq_true hc];rfl
theorem nI {c:Prop} [Decidable c] {v:Value} (hc: ¬c):BX (.bool (decide c)) true v=undef:=by rw [decide_eq_false hc];rfl
theorem rY {a:Bool} {v:Value} (h:a=true):BX (.bool a) true v=v:=by rw [h];rfl
theorem pH {a:Bool} {v:Value} (h:a=true):BX (.bool a) false v=undef:=by rw [h];rfl
theorem rP {a:Bool} {v:Value} (h:a=false):BX (.bool a) false v=v:=by rw [h];rfl
theorem pC {a:Bool} {v:Value} (h:a=false):BX (.bool a) true v=undef:=by rw [h];rfl
theorem H0 {g b:Bool} {w:Bool} {q:Prop} (h:q):gE (BX (.bool g) w (.bool b)) q:=by cases g <;> cases w <;> exact ⟨rfl,h⟩
theorem H4 {g:Bool} {w:Bool} {q:Prop} (h:q):gE (BX (.bool g) w undef) q:=by cases g <;> cases w <;> exact ⟨rfl,h⟩
theorem HZ {w:Bool} {v:Value} {q:Prop} (h:q):gE (BX undef w v) q:=by cases w <;> exact ⟨rfl,h⟩
theorem HK {c:Prop} [Decidable c] {w:Bool} {v:Value} {m:(Value→Prop)→Prop} {K:Value→Prop} (hc:c) (h:gP v w m K):gP (BX (.bool (decide c)) true v) w m K:=by rw [qM hc];exact h
theorem HI {c:Prop} [Decidable c] {w:Bool} {v:Value} {m:(Value→Prop)→Prop} {K:Value→Prop} (hc: ¬c) (h:K undef):gP (BX (.bool (decide c)) true v) w m K:=by rw [nI hc];exact JK h
theorem FD {c:Prop} [Decidable c] {w:Bool} {v:Value} {m:(Value→Prop)→Prop} {K:Value→Prop} (hc: ¬c) (h:gP v w m K):gP (BX (.bool (decide c)) false v) w m K:=by rw [rA hc];exact h
theorem FC {c:Prop} [Decidable c] {w:Bool} {v:Value} {m:(Value→Prop)→Prop} {K:Value→Prop} (hc:c) (h:K undef):gP (BX (.bool (decide c)) false v) w m K:=by rw [oS hc];exact JK h
theorem HC {c:Bool} {w:Bool} {v:Value} {m:(Value→Prop)→Prop} {K:Value→Prop} (hc:c=true) (h:gP v w m K):gP (BX (.bool c) true v) w m K:=by rw [rY hc];exact h
theorem HB {c:Bool} {w:Bool} {v:Value} {m:(Value→Prop)→Prop} {K:Value→Prop} (hc:c=false) (h:K undef):gP (BX (.bool c) true v) w m K:=by rw [pC hc];exact JK h
theorem EW {c:Bool} {w:Bool} {v:Value} {m:(Value→Prop)→Prop} {K:Value→Prop} (hc:c=false) (h:gP v w m K):gP (BX (.bool c) false v) w m K:=by rw [rP hc];exact h
theorem FF {c:Bool} {w:Bool} {v:Value} {m:(Value→Prop)→Prop} {K:Value→Prop} (hc:c=true) (h:K undef):gP (BX (.bool c) false v) w m K:=by rw [pH hc];exact JK h
theorem FM {c:Prop} [Decidable c] {w:Bool} {v:Value} {m:(Value→Prop)→Prop} {K:Value→Prop} (h1: ¬c→gP v w m K) (h2:c→K undef):gP (BX (.bool (decide c)) false v) w m K:=by
 by_cases hc:c
 ·exact FC hc (h2 hc)
 ·exact FD hc (h1 hc)
theorem FI {c:Prop} [Decidable c] {w:Bool} {v:Value} {m:(Value→Prop)→Prop} {K:Value→Prop} (h1:c→gP v w m K) (h2: ¬c→K undef):gP (BX (.bool (decide c)) true v) w m K:=by
 by_cases hc:c
 ·exact HK hc (h1 hc)
 ·exact HI hc (h2 hc)
theorem FZ {w:Bool} {v:Value} {m:(Value→Prop)→Prop} {K:Value→Prop} (h:K undef):gP (BX (.bool true) false v) w m K:=FF rfl h
theorem FV {w:Bool} {v:Value} {m:(Value→Prop)→Prop} {K:Value→Prop} (h:gP v w m K):gP (BX (.bool false) false v) w m K:=EW rfl h
theorem FO {w:Bool} {v:Value} {m:(Value→Prop)→Prop} {K:Value→Prop} (h:gP v w m K):gP (BX (.bool true) true v) w m K:=HC rfl h
theorem FN {w:Bool} {v:Value} {m:(Value→Prop)→Prop} {K:Value→Prop} (h:K undef):gP (BX (.bool false) true v) w m K:=HB rfl h
theorem EC {p q:Prop} (h:p):AY (.bool true) p q:= .inl ⟨rfl,h⟩
theorem DI {p q:Prop} (h:q):AY (.bool false) p q:= .inr ⟨rfl,h⟩
theorem KO {a b:Value} {K:Value→Prop} (hp:plain a=true) (h:K a):prP (pk (.bool true) a b) K:=DF hp h
theorem KH {a b:Value} {K:Value→Prop} (hp:plain b=true) (h:K b):prP (pk (.bool false) a b) K:=DF hp h
theorem CF {a:Value} {l:List Value}:nx (a::l) 0=a:=rfl
theorem CQ {a b:Value} {l:List Value}:nx (a::b::l) 1=b:=rfl
theorem CO {a b c:Value} {l:List Value}:nx (a::b::c::l) 2=c:=rfl
theorem CT {a b c d:Value} {l:List Value}:nx (a::b::c::d::l) 3=d:=rfl
theorem CL {a b c d e:Value} {l:List Value}:nx (a::b::c::d::e::l) 4=e:=rfl
theorem CN {a b c d e f:Value} {l:List Value}:nx (a::b::c::d::e::f::l) 5=f:=rfl
theorem CP {a b c d e f g:Value} {l:List Value}:nx (a::b::c::d::e::f::g::l) 6=g:=rfl
theorem BD {a:List T} {l:List (List T)}:nxc (a::l) 0=a:=rfl
theorem BE {a b:List T} {l:List (List T)}:nxc (a::b::l) 1=b:=rfl
theorem BG {a b c:List T} {l:List (List T)}:nxc (a::b::c::l) 2=c:=rfl
theorem BH {a b c d:List T} {l:List (List T)}:nxc (a::b::c::d::l) 3=d:=rfl
theorem BJ {a b c d e:List T} {l:List (List T)}:nxc (a::b::c::d::e::l) 4=e:=rfl
theorem BF {a b c d e f:List T} {l:List (List T)}:nxc (a::b::c::d::e::f::l) 5=f:=rfl
theorem AQ {a:T}:cnt 1 [a]=1:=rfl
theorem AK:cnt 1 []=0:=rfl
theorem AP {a b:T}:cnt 2 [a,b]=1:=by simp [cnt]
theorem AN {a b c:T}:cnt 3 [a,b,c]=1:=by simp [cnt]
theorem AR {a b c d e:T}:cnt 5 [a,b,c,d,e]=1:=by simp [cnt]
theorem AL {a b c d e f:T}:cnt 6 [a,b,c,d,e,f]=1:=by simp [cnt]
theorem AV {a b c d e f g h:T}:cnt 8 [a,b,c,d,e,f,g,h]=1:=by simp [cnt]
theorem D5 {c:List T} {n m b:Nat} {q:Prop} (hf:flat c=true) (hn:(n+m)*b≤2^47) (h:q):apW c true n m b q:=⟨fun _=>hf,hn,h⟩
theorem G4 {c:List T} {n m b:Nat} {q:Prop} (hn:(n+m)*b≤2^47) (h:q):apW c false n m b q:=⟨fun hx=>(by cases hx),hn,h⟩
theorem DB (l:List Int):flat (tI l)=true:=by simp [flat,tI,isC]
theorem DC (l:List ByteArray):flat (tS l)=true:=by simp [flat,tS,isC]
theorem H2 {n:Nat} {a:Int} {K:Value→Prop} (h0:0≤a) (h1:a<n) (h:K (iv a.toNat)):ixW n (I a) K:=
 ⟨.i64,a.toNat,by rw [Int.ofNat_eq_natCast,Int.toNat_of_nonneg h0],by omega,h⟩
theorem HH {f:J2} {g:J2→Prop} (h:g f):BL f g:=h
theorem NI {α:Type} {F:J2→J2} {xs0:List Value} {cs0:List (List T)} (xs:α→List Value) (cs:α→List (List T)) (μ:α→Nat) (P:α→Prop) (a:α) (hx:xs0=xs a) (hc:cs0=cs a) (hP:P a)
  (h: ∀(R:J2) a,P a→(∀b,P b→μ b<μ a→R (xs b) (cs b))→F R (xs a) (cs a)):A6 F xs0 cs0:=by
 subst hx;subst hc
 intro R hR
 have: ∀k a,μ a<k→P a→R (xs a) (cs a):=by
  intro k
  induction k with
  | zero=>intro a hk _;omega
  | succ k ih=>intro a hk hp;exact hR _ _ (h R a hp fun b hb hlt=>ih b (by omega) hb)
 exact this _ a (Nat.lt_succ_self _) hP
def tR {α:Type} (f:α→List T) (l:List α):List T:=l.flatMap f
class Rw {α:Type} (f:α→List T) (e:outParam Nat):Prop where
 pos:1<e
 len: ∀x,(f x).length=e
section
variable {α:Type} {f:α→List T} {e:Nat}
theorem q9:tR f []=[]:=rfl
theorem MZ (x:α) (l:List α):tR f (x::l)=f x++tR f l:=rfl
theorem rR (l m:List α):tR f (l++m)=tR f l++tR f m:=by simp [tR]
theorem TP (l:List α) (x:α):tR f l++f x=tR f (l++[x]):=by simp [tR]
theorem YS [hr:Rw f e] (l:List α):(tR f l).length=l.length*e:=by
 induction l with
 | nil=>simp [tR]
 | cons x l ih=>rw [MZ,List.length_append,ih,hr.len,List.length_cons,Nat.add_mul];omega
theorem UX [hr:Rw f e] (l:List α):cnt e (tR f l)=l.length:=by
 have hp:=hr.pos
 have:cnt e (tR f l)=(tR f l).length/e:=by
  match e,hp with
  | k+2,_=>rfl
 rw [this,YS,Nat.mul_div_cancel _ (by omega)]
theorem PV [hr:Rw f e]: ∀{l:List α} {i:Nat} (hi:i<l.length) {c:Nat},c<e→(tR f l)[i*e+c]? =(f l[i])[c]?
 | x::l,0,hi,c,hc=>by
   rw [MZ,Nat.zero_mul,Nat.zero_add,List.getElem?_append_left (by rw [hr.len];exact hc)];rfl
 | x::l,i+1,hi,c,hc=>by
   have h1:i<l.length:=by simpa using hi
   rw [MZ,List.getElem?_append_right (by rw [hr.len,Nat.add_mul];omega),hr.len]
   have:(i+1)*e+c-e=i*e+c:=by rw [Nat.add_mul];omega
   rw [this,PV h1 hc];rfl
theorem YW [hr:Rw f e]: ∀(l:List α) (i:Nat),(tR f l).drop (i*e)=tR f (l.drop i)
 | l,0=>by simp
 | [],i+1=>by simp [tR]
 | x::l,i+1=>by
   rw [MZ,List.drop_succ_cons, ←YW l i]
   have:(i+1)*e=(f x).length+i*e:=by rw [Nat.add_mul,hr.len];omega
   rw [this,List.drop_append,List.drop_of_length_le (by omega)]
   simp
theorem TZ [hr:Rw f e]: ∀(l:List α) (i:Nat),(tR f l).take (i*e)=tR f (l.take i)
 | l,0=>by simp [tR]
 | [],i+1=>by simp [tR]
 | x::l,i+1=>by
   rw [MZ,List.take_succ_cons,MZ, ←TZ l i]
   have:(i+1)*e=(f x).length+i*e:=by rw [Nat.add_mul,hr.len];omega
   rw [this,List.take_append,List.take_of_length_le (by omega)]
   simp
theorem kB [hr:Rw f e] {l:List α} {i:Nat} (hi:i<l.length):((tR f l).drop (i*e)).take e=f l[i]:=by
 have h1:=TZ (f:=f) (l.drop i) 1
 rw [Nat.one_mul] at h1
 rw [YW,h1,List.drop_eq_getElem_cons hi,List.take_succ_cons,List.take_zero,MZ,q9,List.append_nil]
theorem mJ [hr:Rw f e] {l:List α} {i:Nat} (hi:i<l.length) (y:α):LU (tR f l) (i*e) (f y)=tR f (l.set i y):=by
 have h1:i*e+e=(i+1)*e:=by rw [Nat.add_mul];omega
 rw [LU,hr.len,h1,TZ,YW,List.set_eq_take_append_cons_drop,if_pos hi,rR,MZ]
theorem mH [hr:Rw f e] {l:List α} {i:Nat} (hi:i<l.length) {c:Nat} (hc:c<e) {t:T} {y:α} (hy:f y=(f l[i]).set c t):(tR f l).set (i*e+c) t=tR f (l.set i y):=by
 rw [←mJ (f:=f) hi y,hy,LU,List.length_set,hr.len]
 have h0:tR f l=(tR f l).take (i*e)++(f l[i]++(tR f l).drop (i*e+e)):=by
  rw [←kB (f:=f) hi, ←List.drop_drop,List.take_append_drop,List.take_append_drop]
 have h1:((tR f l).take (i*e)).length=i*e:=by
  rw [TZ,YS,List.length_take];congr 1;omega
 conv=>lhs;rw [h0]
 rw [List.set_append_right _ _ (by rw [h1];omega),h1,Nat.add_sub_cancel_left,List.set_append_left _ _ (by rw [hr.len];exact hc)]
theorem Z3 {ds:List T} {off:Nat} {t:T} (h:off<ds.length):LU ds off [t]=ds.set off t:=by
 rw [LU,List.length_singleton,List.set_eq_take_append_cons_drop,if_pos h];rfl
theorem DV [hr:Rw f e] {l:List α} {i:Nat} (hi:i<l.length) {c:Nat} {v:Value} {K:Value→Prop} (hc:c<e) (hv:(f l[i])[c]? =some (.c v)) (h:K v):ldc (tR f l) [] (AB (iv i)*e+c) K:=by
 rw [BB];exact ⟨v,by simp only [cell,node,Option.bind_some];rw [PV hi hc];exact hv,h⟩
theorem CI [hr:Rw f e] {l:List α} {i:Nat} (hi:i<l.length) {v:Value} {K:Value→Prop} (hv:(f l[i])[0]? =some (.c v)) (h:K v):ldc (tR f l) [] (AB (iv i)*e) K:=
 DV hi (c:=0) (by have:=hr.pos;omega) hv h
theorem SQ [hr:Rw f e] {l:List α} {i:Nat} (hi:i<l.length) {c e':Nat} {ds:List T} {K:Value→Prop} (hc:c<e) (hv:(f l[i])[c]? =some (.l e' ds)) (h:K (iv 0)):ldl (tR f l) [] (AB (iv i)*e+c) e' K:=by
 rw [BB];exact ⟨⟨ds,by simp only [cell,node,Option.bind_some];rw [PV hi hc];exact hv⟩,h⟩
theorem EB [hr:Rw f e] {l:List α} {i:Nat} (hi:i<l.length) {ks:List CK} {K:List T→Prop} (hn:ks.length=e) (hk:LK ks (f l[i])=true) (h:K (f l[i])):ldg (tR f l) [] (AB (iv i)*e) ks K:=by
 refine ⟨f l[i], ?_,hk,h⟩
 rw [BB,hn];simp only [MJ,node];exact kB hi
theorem YN [hr:Rw f e] {l:List α} {i:Nat} (hi:i<l.length) {c e':Nat} {ds:List T} {pre:List Nat} (hc:c<e) (hv:(f l[i])[c]? =some (.l e' ds)):node (tR f l) ((AB (iv i)*e+c)::pre)=node ds pre:=by
 rw [BB];simp only [node,PV hi hc,hv]
theorem eV [hr:Rw f e] {l:List α} {i:Nat} (hi:i<l.length) {c e':Nat} {ds:List T} (hc:c<e) (hv:(f l[i])[c]? =some (.l e' ds)):L5 (tR f l) [AB (iv i)*e+c]=ds:=by
 have h:=YN hi hc hv (pre:=[])
 simp only [L5,h];rfl
theorem YK [hr:Rw f e] {l:List α} {i:Nat} (hi:i<l.length) {c e' off:Nat} {ds:List T} {K:Value→Prop} (hc:c<e) (hv:(f l[i])[c]? =some (.l e' ds)) (h:ldc ds [] off K):ldc (tR f l) [AB (iv i)*e+c] off K:=by
 obtain ⟨v,h1,h2⟩:=h
 have h3:=YN hi hc hv (pre:=[])
 refine ⟨v, ?_,h2⟩
 unfold cell at h1 ⊢
 rw [h3];exact h1
theorem nJ [hr:Rw f e] {l:List α} {i:Nat} (hi:i<l.length) {c e':Nat} {ds ds':List T} {y:α} (hc:c<e) (hv:(f l[i])[c]? =some (.l e' ds)) (hy:f y=(f l[i]).set c (.l e' ds')):IG (tR f l) [AB (iv i)*e+c] ds'=tR f (l.set i y):=by
 rw [BB]
 simp only [IG,PV hi hc,hv]
 exact mH hi hc hy
theorem Y1 [hr:Rw f e] {l:List α} {i:Nat} (hi:i<l.length) {c:Nat} {v w:Value} {y:α} {K:List T→Prop} (hc:c<e) (hv:(f l[i])[c]? =some (.c w)) (hy:f y=(f l[i]).set c (.c v)) (h:K (tR f (l.set i y))):stc (tR f l) [] (AB (iv i)*e+c) v K:=by
 rw [BB]
 have hlt:i*e+c<(tR f l).length:=by
  rw [YS]
  have:(i+1)*e≤l.length*e:=Nat.mul_le_mul_right _ hi
  rw [Nat.add_mul] at this;omega
 refine ⟨⟨w,by simp only [cell,node,Option.bind_some];rw [PV hi hc];exact hv⟩, ?_⟩
 have:KT (tR f l) [] (i*e+c) [.c v]=tR f (l.set i y):=by
  simp only [KT,node,IG]
  rw [Z3 hlt,mH hi hc hy]
 rw [this];exact h
theorem o8 [hr:Rw f e] {l:List α} {i:Nat} (hi:i<l.length) {c e' off:Nat} {v w:Value} {ds:List T} {y:α} {K:List T→Prop} (hc:c<e) (hv:(f l[i])[c]? =some (.l e' ds)) (hw:ds[off]? =some (.c w)) (hy:f y=(f l[i]).set c (.l e' (ds.set off (.c v)))) (h:K (tR f (l.set i y))):stc (tR f l) [AB (iv i)*e+c] off v K:=by
 have hlt:off<ds.length:=(List.getElem?_eq_some_iff.1 hw).1
 have h3:node (tR f l) [AB (iv i)*e+c]=some ds:=YN hi hc hv (pre:=[])
 refine ⟨⟨w,by unfold cell;rw [h3];exact hw⟩, ?_⟩
 have:KT (tR f l) [AB (iv i)*e+c] off [.c v]=tR f (l.set i y):=by
  unfold KT
  rw [h3]
  simp only
  rw [Z3 hlt,nJ hi hc hv hy]
 rw [this];exact h
theorem SP [hr:Rw f e] {l:List α} {i:Nat} (hi:i<l.length) {ts:List T} {y:α} {K:List T→Prop} (hy:ts=f y) (h:K (tR f (l.set i y))):stg (tR f l) [] (AB (iv i)*e) ts K:=by
 subst hy
 rw [BB]
 refine ⟨⟨_,rfl, ?_⟩, ?_⟩
 ·rw [hr.len,YS]
  have:(i+1)*e≤l.length*e:=Nat.mul_le_mul_right _ hi
  rw [Nat.add_mul] at this;omega
 ·have:KT (tR f l) [] (i*e) (f y)=tR f (l.set i y):=by
   simp only [KT,node,IG];exact mJ hi y
  rw [this];exact h
theorem dP [hr:Rw f e] {cur:List α} {i:Nat} (hi:i<cur.length) {y y':α} {c:Nat} {v w:Value} {K:List T→Prop} (hc:c<e) (hv:(f y)[c]? =some (.c w)) (hy:f y'=(f y).set c (.c v)) (h:K (tR f (cur.set i y'))):stc (tR f (cur.set i y)) [] (AB (iv i)*e+c) v K:=
 Y1 (l:=cur.set i y) (by simpa using hi) (y:=y') hc (by rw [List.getElem_set_self];exact hv) (by rw [List.getElem_set_self];exact hy) (by rw [List.set_set];exact h)
theorem kH [hr:Rw f e] {cur:List α} {i:Nat} (hi:i<cur.length) {y:α} {c e':Nat} {ds:List T} (hc:c<e) (hv:(f y)[c]? =some (.l e' ds)):L5 (tR f (cur.set i y)) [AB (iv i)*e+c]=ds:=
 eV (l:=cur.set i y) (by simpa using hi) hc (by rw [List.getElem_set_self];exact hv)
theorem mU [hr:Rw f e] {cur:List α} {i:Nat} (hi:i<cur.length) {y:α} {c e':Nat} {ds:List T} {K:Value→Prop} (hc:c<e) (hv:(f y)[c]? =some (.l e' ds)) (h:K (iv 0)):ldl (tR f (cur.set i y)) [] (AB (iv i)*e+c) e' K:=
 SQ (l:=cur.set i y) (by simpa using hi) hc (by rw [List.getElem_set_self];exact hv) h
theorem K6 [hr:Rw f e] {cur:List α} {i:Nat} (hi:i<cur.length) {y:α} {c:Nat} {v:Value} {K:Value→Prop} (hc:c<e) (hv:(f y)[c]? =some (.c v)) (h:K v):ldc (tR f (cur.set i y)) [] (AB (iv i)*e+c) K:=
 DV (l:=cur.set i y) (by simpa using hi) hc (by rw [List.getElem_set_self];exact hv) h
theorem iK [hr:Rw f e] {cur:List α} {i:Nat} (hi:i<cur.length) {y:α} {v:Value} {K:Value→Prop} (hv:(f y)[0]? =some (.c v)) (h:K v):ldc (tR f (cur.set i y)) [] (AB (iv i)*e) K:=
 K6 hi (c:=0) (by have:=hr.pos;omega) hv h
theorem mQ {cur:List α} {i:Nat} (hi:i<cur.length):tR f cur=tR f (cur.set i cur[i]):=by rw [List.set_getElem_self]
theorem nR (n:Nat) (x:α):VE n (f x)=tR f (List.replicate n x):=by
 simp only [VE,tR]
 induction n with
 | zero=>rfl
 | succ n ih=>rw [List.replicate_succ,List.replicate_succ,List.flatten_cons,List.flatMap_cons,ih]
end
theorem KJ (l:List Int) (n:Int):tI l++[T.c (I n)]=tI (l++[n]):=by simp [tI]
theorem oK (l:List ByteArray) (n:ByteArray):tS l++[T.c (.string n)]=tS (l++[n]):=by simp [tS]
theorem qG {l:List Int} {j:Nat} (hj:j<l.length):(tI l)[j]? =some (.c (I l[j])):=by simp [tI,hj]
theorem rZ {l:List Int} {j:Nat} {v:Int}:(tI l).set j (.c (I v))=tI (l.set j v):=by simp [tI,List.map_set]
end Go.Proofs.YthapfcoajahegaaDoor.Eng
namespace Go.Proofs.YthapfcoajahegaaDoor.Eng
open Go Go.RowKit
set_option linter.unusedVariables false
def Rdt {α:Type} (d:Kind α) (t:α→List T):Prop:=(∀x,(t x).length=d.sz)∧ ∀s x cs,d.E s x cs→ ∃F,TRs s false (t x) cs F
theorem sD:Rdt (rQ .u8) fun n=>[.c (.int .u8 n)]:=⟨fun _=>rfl,fun s x cs h=>⟨[],by subst h;simp [TRs,TR,plain]⟩⟩
theorem eW {α:Type} {d:Kind α} {t:α→List T} (hd:Rdt d t) {s:St}: ∀(xs:List α) (cells:List Value),cells.length=xs.length*d.sz→(∀(i:Nat) x,xs[i]? =some x→d.E s x ((cells.drop (i*d.sz)).take d.sz))→ ∃F,TRs s false (xs.flatMap t) cells F
 | [],cells,hl,_=>⟨[],by
     have:cells=[]:=List.length_eq_zero_iff.1 (by simpa using hl)
     subst this;simp [TRs]⟩
 | x::xs,cells,hl,h=>by
   have h0:=h 0 x rfl
   rw [Nat.zero_mul,List.drop_zero] at h0
   obtain ⟨F1,g1⟩:=hd.2 s x _ h0
   rw [List.length_cons,Nat.add_mul,Nat.one_mul] at hl
   obtain ⟨F2,g2⟩:=eW hd xs (cells.drop d.sz) (by rw [List.length_drop];omega) (fun i y hy=>by
    have:=h (i+1) y (by simpa using hy)
    rwa [Nat.add_mul,Nat.one_mul,Nat.add_comm, ←List.drop_drop] at this)
   refine ⟨F1++F2, ?_⟩
   rw [List.flatMap_cons]
   exact LR.2 ⟨cells.take d.sz,cells.drop d.sz,F1,F2,(List.take_append_drop _ _).symm,g1,g2,rfl⟩
theorem S8 {α:Type} {t:α→List T} {n:Nat} (h: ∀x,(t x).length=n): ∀xs:List α,(xs.flatMap t).length=xs.length*n
 | []=>by simp
 | x::xs=>by rw [List.flatMap_cons,List.length_append,h,S8 h xs,List.length_cons,Nat.add_mul];omega
theorem qA {α:Type} {d:Kind α} {t:α→List T} {hsz:0<d.sz} (hd:Rdt d t):Rdt (kSl d hsz) fun xs=>[.l d.sz (xs.flatMap t)]:=
 ⟨fun _=>rfl,fun s xs cs ⟨v,h,cells,⟨h1,h2⟩,h3⟩=>by
  subst h
  obtain ⟨F,hF⟩:=eW hd xs cells h1 h3
  have hlen:=S8 hd.1 xs
  rcases h2 with ⟨rfl,h0⟩ | ⟨b,off,ob,rfl,g1,g2,g3⟩
  ·have:xs=[]:=List.length_eq_zero_iff.1 h0
   subst this
   exact ⟨[],IE.2 ⟨nl,rfl,by simp [TR]⟩⟩
  ·refine ⟨b::F,IE.2 ⟨_,rfl,IA.2 (.inr ⟨b,off,xs.length,rfl,hlen,ob,F,g1,fun h=>(by cases h),by rw [hlen];exact g2, ?_,rfl⟩)⟩⟩
   rw [hlen,g3];exact hF⟩
theorem lD {C:Ctx} {ρ:Rho} {s:St} {f:FuncId} {g:Sg} {es args sv:List Value} {vs:List Value} {cs:List (List T)} {D:List Nat} (hr:Rel C ρ s C.w0) (ht: ∀h,s.n≤h→ρ h=none) (ha:GK (VR ρ) es args) (hp:OX s g.ps es vs cs sv [] D) (hg:g.rs=[(0,[.v])])
  (h:cl2 C f g vs cs fun vs' _=>vs'.head?=some (.bool true)):Calls C.P f args.toArray C.w0 fun e W'=>e= .returned (.bool true)∧Below C.w0.heap.size C.w0 W':=by
 obtain ⟨v,s',M',vs',cs',⟨hn,hgo⟩,_,hres,_,_,_,hk⟩:=h s es sv [] D hp List.nodup_nil (fun x hx=>by simp at hx)
 refine Calls.mono (hgo ρ C.w0 args (fun x h1 h2=>ht x h1) hr ha) fun e W' he=> ?_
 cases e with
 | returned u=>
   obtain ⟨ρ',_,hrel,hv⟩:=he
   obtain ⟨as',v1,v2,c1,c2,c3,M1,M2,M3,e1,e2,e3,e4,e5,hV,_,_⟩:=hres.ex
   rw [hg] at hV
   simp only [UN,LV] at hV
   obtain ⟨a,as2,us,w1,w2,d1,d2,N1,N2,rfl,rfl,rfl,⟨u1,us',vs1,rfl,rfl,_,rfl,rfl,_,_⟩,⟨rfl,rfl,_,_⟩,hu,_⟩:=hV
   subst e3
   simp only [List.cons_append,List.head?_cons,Option.some.injEq] at hk
   subst hk
   simp only [List.cons.injEq,and_true] at hu
   subst hu
   rw [e1] at hv
   have:u= .bool true:=hv
   exact ⟨by rw [this],hrel.bel⟩
 | outgrown=>exact he.elim
 | panicked x=>exact he.elim
end Go.Proofs.YthapfcoajahegaaDoor.Eng
namespace Go.Proofs.YthapfcoajahegaaDoor.Eng
open Go Go.RowKit
set_option linter.unusedVariables false
structure AD where
 live:Bool
 gen:Int
 site:Int
 holds:Int
 roots:Int
 count:Int
 field:List Int
 purple:Bool
structure Wk where
 used:Bool
 target:Int
structure Op5 where
 kind:Int
 a:Int
 b:Int
 c:Int
 site:ByteArray
structure An where
 code:Int
 val:Int
 freed:List Int
structure Nd where
 live:Bool
 gen:Int
 site:Int
 holds:Int
 roots:Int
 field:List Int
structure Hp where
 AG:List AD
 CY:List Wk
 buffer:List Int
 sites:List ByteArray
def tO (o:AD):List T:=[.c (.bool o.live), .c (I o.gen), .c (I o.site), .c (I o.holds), .c (I o.roots), .c (I o.count), .l 1 (tI o.field), .c (.bool o.purple)]
def tW (w:Wk):List T:=[.c (.bool w.used), .c (I w.target)]
def tP (o:Op5):List T:=[.c (I o.kind), .c (I o.a), .c (I o.b), .c (I o.c), .c (.string o.site)]
def tA (a:An):List T:=[.c (I a.code), .c (I a.val), .l 1 (tI a.freed)]
def tN (n:Nd):List T:=[.c (.bool n.live), .c (I n.gen), .c (I n.site), .c (I n.holds), .c (I n.roots), .l 1 (tI n.field)]
instance rwO:Rw tO 8:=⟨by omega,fun _=>rfl⟩
instance rwW:Rw tW 2:=⟨by omega,fun _=>rfl⟩
instance rwP:Rw tP 5:=⟨by omega,fun _=>rfl⟩
instance rwA:Rw tA 3:=⟨by omega,fun _=>rfl⟩
instance rwN:Rw tN 6:=⟨by omega,fun _=>rfl⟩
theorem AM (l:List AD):cnt 8 (tR tO l)=l.length:=UX l
theorem AS (l:List Wk):cnt 2 (tR tW l)=l.length:=UX l
theorem AW (l:List Op5):cnt 5 (tR tP l)=l.length:=UX l
theorem AU (l:List An):cnt 3 (tR tA l)=l.length:=UX l
theorem AO (l:List Nd):cnt 6 (tR tN l)=l.length:=UX l
theorem dU (l:List AD) (x:AD):tR tO l++[T.c (.bool x.live), .c (I x.gen), .c (I x.site), .c (I x.holds), .c (I x.roots), .c (I x.count), .l 1 (tI x.field), .c (.bool x.purple)]=tR tO (l++[x]):=TP l x
theorem DA (l:List Wk):flat (tR tW l)=true:=by
 simp only [flat,tR,List.all_flatMap,List.all_eq_true];intro x _ t ht
 simp only [tW,List.mem_cons,List.not_mem_nil,or_false] at ht
 rcases ht with rfl | rfl <;> rfl
theorem DQ (l:List Op5):flat (tR tP l)=true:=by
 simp only [flat,tR,List.all_flatMap,List.all_eq_true];intro x _ t ht
 simp only [tP,List.mem_cons,List.not_mem_nil,or_false] at ht
 rcases ht with rfl | rfl | rfl | rfl | rfl <;> rfl
section
variable {l:List AD} {i:Nat} {K:List T→Prop}
theorem gV {v:Int} (hi:i<l.length) (h:K (tR tO (l.set i {l[i] with holds:=v}))):stc (tR tO l) [] (AB (iv i)*8+3) (I v) K:=Y1 hi (by decide) rfl rfl h
theorem gR {j:Nat} {v:Int} (hi:i<l.length) (hj:j<l[i].field.length) (h:K (tR tO (l.set i {l[i] with field:=l[i].field.set j v}))):stc (tR tO l) [AB (iv i)*8+6] (AB (iv j)*1) (I v) K:=by
 rw [BB j,Nat.mul_one]
 exact o8 hi (by decide) rfl (qG hj) (by simp only [rZ];rfl) h
end
def gI (l:List Int) (i:Nat):Int:=l.getD i 0
def gS (l:List ByteArray) (i:Nat):ByteArray:=l.getD i ⟨#[]⟩
theorem G3 {l:List Int} {i:Nat} (h:i<l.length):l[i]=gI l i:=by simp [gI,h]
theorem bE {l:List ByteArray} {i:Nat} (h:i<l.length):l[i]=gS l i:=by simp [gS,h]
theorem ldI {l:List Int} {i:Nat} {K:Value→Prop} (hi:i<l.length) (h:K (I (gI l i))):ldc (tI l) [] (AB (iv i)*1) K:=by rw [←G3 hi] at h;exact EF hi h
theorem ldS {l:List ByteArray} {i:Nat} {K:Value→Prop} (hi:i<l.length) (h:K (.string (gS l i))):ldc (tS l) [] (AB (iv i)*1) K:=by rw [←bE hi] at h;exact ER hi h
def ob (l:List AD) (i:Nat):AD:=l.getD i ⟨false,0,0,0,0,0,[],false⟩
theorem FH {l:List AD} {i:Nat} (h:i<l.length):l[i]=ob l i:=by simp [ob,h]
theorem EG {l:List AD} {i:Nat} {K:List T→Prop} (hi:i<l.length) (h:K (tO (ob l i))):ldg (tR tO l) [] (AB (iv i)*8) [.c, .c, .c, .c, .c, .c, .l 1, .c] K:=by rw [←FH hi] at h;exact EB hi rfl rfl h
theorem EP {l:List AD} {i c:Nat} {v:Value} {K:Value→Prop} (hi:i<l.length) (hc:c<8) (hv:(tO (ob l i))[c]? =some (.c v)) (h:K v):ldc (tR tO l) [] (AB (iv i)*8+c) K:=by rw [←FH hi] at hv;exact DV hi hc hv h
theorem C9 {l:List AD} {i:Nat} {v:Value} {K:Value→Prop} (hi:i<l.length) (hv:(tO (ob l i))[0]? =some (.c v)) (h:K v):ldc (tR tO l) [] (AB (iv i)*8) K:=by rw [←FH hi] at hv;exact CI hi hv h
def wk (l:List Wk) (i:Nat):Wk:=l.getD i ⟨false,0⟩
theorem aT {l:List Wk} {i:Nat} (h:i<l.length):l[i]=wk l i:=by simp [wk,h]
theorem EY {l:List Wk} {i:Nat} {K:List T→Prop} (hi:i<l.length) (h:K (tW (wk l i))):ldg (tR tW l) [] (AB (iv i)*2) [.c, .c] K:=by rw [←aT hi] at h;exact EB hi rfl rfl h
theorem F4 {l:List Wk} {i c:Nat} {v:Value} {K:Value→Prop} (hi:i<l.length) (hc:c<2) (hv:(tW (wk l i))[c]? =some (.c v)) (h:K v):ldc (tR tW l) [] (AB (iv i)*2+c) K:=by rw [←aT hi] at hv;exact DV hi hc hv h
theorem C4 {l:List Wk} {i:Nat} {v:Value} {K:Value→Prop} (hi:i<l.length) (hv:(tW (wk l i))[0]? =some (.c v)) (h:K v):ldc (tR tW l) [] (AB (iv i)*2) K:=by rw [←aT hi] at hv;exact CI hi hv h
def po (l:List Op5) (i:Nat):Op5:=l.getD i ⟨0,0,0,0,⟨#[]⟩⟩
theorem eE {l:List Op5} {i:Nat} (h:i<l.length):l[i]=po l i:=by simp [po,h]
theorem FB {l:List Op5} {i:Nat} {K:List T→Prop} (hi:i<l.length) (h:K (tP (po l i))):ldg (tR tP l) [] (AB (iv i)*5) [.c, .c, .c, .c, .c] K:=by rw [←eE hi] at h;exact EB hi rfl rfl h
theorem FY {l:List Op5} {i c:Nat} {v:Value} {K:Value→Prop} (hi:i<l.length) (hc:c<5) (hv:(tP (po l i))[c]? =some (.c v)) (h:K v):ldc (tR tP l) [] (AB (iv i)*5+c) K:=by rw [←eE hi] at hv;exact DV hi hc hv h
theorem DL {l:List Op5} {i:Nat} {v:Value} {K:Value→Prop} (hi:i<l.length) (hv:(tP (po l i))[0]? =some (.c v)) (h:K v):ldc (tR tP l) [] (AB (iv i)*5) K:=by rw [←eE hi] at hv;exact CI hi hv h
def an (l:List An) (i:Nat):An:=l.getD i ⟨0,0,[]⟩
theorem fE {l:List An} {i:Nat} (h:i<l.length):l[i]=an l i:=by simp [an,h]
theorem FL {l:List An} {i:Nat} {K:List T→Prop} (hi:i<l.length) (h:K (tA (an l i))):ldg (tR tA l) [] (AB (iv i)*3) [.c, .c, .l 1] K:=by rw [←fE hi] at h;exact EB hi rfl rfl h
theorem FP {l:List An} {i c:Nat} {v:Value} {K:Value→Prop} (hi:i<l.length) (hc:c<3) (hv:(tA (an l i))[c]? =some (.c v)) (h:K v):ldc (tR tA l) [] (AB (iv i)*3+c) K:=by rw [←fE hi] at hv;exact DV hi hc hv h
theorem DD {l:List An} {i:Nat} {v:Value} {K:Value→Prop} (hi:i<l.length) (hv:(tA (an l i))[0]? =some (.c v)) (h:K v):ldc (tR tA l) [] (AB (iv i)*3) K:=by rw [←fE hi] at hv;exact CI hi hv h
def nd (l:List Nd) (i:Nat):Nd:=l.getD i ⟨false,0,0,0,0,[]⟩
theorem eQ {l:List Nd} {i:Nat} (h:i<l.length):l[i]=nd l i:=by simp [nd,h]
theorem FT {l:List Nd} {i:Nat} {K:List T→Prop} (hi:i<l.length) (h:K (tN (nd l i))):ldg (tR tN l) [] (AB (iv i)*6) [.c, .c, .c, .c, .c, .l 1] K:=by rw [←eQ hi] at h;exact EB hi rfl rfl h
theorem FU {l:List Nd} {i c:Nat} {v:Value} {K:Value→Prop} (hi:i<l.length) (hc:c<6) (hv:(tN (nd l i))[c]? =some (.c v)) (h:K v):ldc (tR tN l) [] (AB (iv i)*6+c) K:=by rw [←eQ hi] at hv;exact DV hi hc hv h
theorem DK {l:List Nd} {i:Nat} {v:Value} {K:Value→Prop} (hi:i<l.length) (hv:(tN (nd l i))[0]? =some (.c v)) (h:K v):ldc (tR tN l) [] (AB (iv i)*6) K:=by rw [←eQ hi] at hv;exact CI hi hv h
theorem Q9 {l:List AD} {i:Nat} (hi:i<l.length):L5 (tR tO l) [AB (iv i)*8+6]=tI (ob l i).field:=by rw [←FH hi];exact eV hi (by decide) rfl
theorem EE {l:List AD} {i j:Nat} {K:Value→Prop} (hi:i<l.length) (hj:j<(ob l i).field.length) (h:K (I (gI (ob l i).field j))):ldc (tR tO l) [AB (iv i)*8+6] (AB (iv j)*1) K:=by
 rw [←G3 hj] at h
 have e:=FH hi
 exact YK hi (by decide) (ds:=tI (ob l i).field) (by rw [e];rfl) (EF hj h)
theorem FW {l:List AD} {i:Nat} {K:Value→Prop} (hi:i<l.length) (h:K (iv 0)):ldl (tR tO l) [] (AB (iv i)*8+6) 1 K:=SQ hi (by decide) rfl h
theorem F5 {l:List Nd} {i j:Nat} {K:Value→Prop} (hi:i<l.length) (hj:j<(nd l i).field.length) (h:K (I (gI (nd l i).field j))):ldc (tR tN l) [AB (iv i)*6+5] (AB (iv j)*1) K:=by
 rw [←G3 hj] at h
 have e:=eQ hi
 exact YK hi (by decide) (ds:=tI (nd l i).field) (by rw [e];rfl) (EF hj h)
theorem FR {l:List Nd} {i:Nat} {K:Value→Prop} (hi:i<l.length) (h:K (iv 0)):ldl (tR tN l) [] (AB (iv i)*6+5) 1 K:=SQ hi (by decide) rfl h
theorem FJ {l:List An} {i j:Nat} {K:Value→Prop} (hi:i<l.length) (hj:j<(an l i).freed.length) (h:K (I (gI (an l i).freed j))):ldc (tR tA l) [AB (iv i)*3+2] (AB (iv j)*1) K:=by
 rw [←G3 hj] at h
 have e:=fE hi
 exact YK hi (by decide) (ds:=tI (an l i).freed) (by rw [e];rfl) (EF hj h)
theorem FK {l:List An} {i:Nat} {K:Value→Prop} (hi:i<l.length) (h:K (iv 0)):ldl (tR tA l) [] (AB (iv i)*3+2) 1 K:=SQ hi (by decide) rfl h
end Go.Proofs.YthapfcoajahegaaDoor.Eng
