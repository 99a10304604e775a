/- A part of the proof. -/
import Derived.Test.YtnhicpkhkaihoaaGreatRpTxtH
import Derived.Test.YtnhicpkhkaihoaaGreatRpHpA
namespace Go.Proofs.YtnhicpkhkaihoaaGreat.P
open Go Go.Proofs.YtnhicpkhkaihoaaGreat Go.Proofs.YtnhicpkhkaihoaaGreat.Eng
set_option linter.unusedVariables false
theorem sU {F:J2→J2} {xs:List Value} {cs:List (List T)} (h: ∀R:J2,(∀xs cs,F R xs cs→R xs cs)→F R xs cs):BA F xs cs:=fun R hR=>hR _ _ (h R hR)
set_option maxHeartbeats 4000000
set_option linter.unusedVariables false
set_option linter.unusedSimpArgs false
attribute [local irreducible] prP gP gE gF AG ixW ldc ldg ldl stc stg scW mkW apW BA cl2 B6 G8 C3
variable {w0:World}
theorem e6 {a b:Nat} {K:Value→Prop} (ha:a<2^32) (hb:b<2^32) (h:K (I ((a^^^b:Nat):Int))):prP (bnI .xor (I a) (I b)) K:=by
 have hx:a^^^b<2^32:=Nat.xor_lt_two_pow ha hb
 refine BK (v:= .int .i64 (IntKind.i64.wrap (BitVec.ofInt 64 a^^^BitVec.ofInt 64 b).toNat)) rfl ?_
 have e:(BitVec.ofInt 64 (a:Int)^^^BitVec.ofInt 64 (b:Int)).toNat=a^^^b:=by
  rw [BitVec.toNat_xor,BitVec.ofInt_natCast,BitVec.ofInt_natCast,BitVec.toNat_ofNat,BitVec.toNat_ofNat,Nat.mod_eq_of_lt (by omega),Nat.mod_eq_of_lt (by omega)]
 rw [e,LJ ⟨by omega,by omega⟩];exact h
abbrev U (n:Int):Value:= .int .u32 n
theorem fQ {a b:Nat} {K:Value→Prop} (ha:a<2^32) (hb:b<2^32) (h:K (U ((a^^^b:Nat):Int))):prP (bnI .xor (U a) (U b)) K:=by
 have hx:a^^^b<2^32:=Nat.xor_lt_two_pow ha hb
 refine BK (v:= .int .u32 (IntKind.u32.wrap (BitVec.ofInt 32 a^^^BitVec.ofInt 32 b).toNat)) rfl ?_
 have e:(BitVec.ofInt 32 (a:Int)^^^BitVec.ofInt 32 (b:Int)).toNat=a^^^b:=by
  rw [BitVec.toNat_xor,BitVec.ofInt_natCast,BitVec.ofInt_natCast,BitVec.toNat_ofNat,BitVec.toNat_ofNat,Nat.mod_eq_of_lt (by omega),Nat.mod_eq_of_lt (by omega)]
 rw [e,IntKind.wrap_u32,Int.emod_eq_of_lt (by omega) (by omega)];exact h
theorem tT {a:Nat} {K:Value→Prop} (ha:a<2^32) (h:K (U ((a % 2:Nat):Int))):prP (bnI .and (U a) (U 1)) K:=by
 refine BK (v:= .int .u32 (IntKind.u32.wrap (BitVec.ofInt 32 a&&& BitVec.ofInt 32 1).toNat)) rfl ?_
 have e:(BitVec.ofInt 32 (a:Int)&&& BitVec.ofInt 32 1).toNat=a % 2:=by
  rw [BitVec.toNat_and,BitVec.ofInt_natCast,BitVec.toNat_ofNat,Nat.mod_eq_of_lt (by omega)]
  exact Nat.and_one_is_mod a
 rw [e,IntKind.wrap_u32,Int.emod_eq_of_lt (by omega) (by omega)];exact h
theorem tC {a:Nat} {K:Value→Prop} (h:K (U ((a/2:Nat):Int))):prP (bnI .shr (U a) (.int .u64 1)) K:=by
 refine BK (v:= .int .u32 ((a:Int).fdiv (2^min (1:Int).toNat 32))) rfl ?_
 have e:(a:Int).fdiv (2^min (1:Int).toNat 32)=((a/2:Nat):Int):=by
  show (a:Int).fdiv 2=_
  rw [Int.fdiv_eq_ediv_of_nonneg _ (by omega)];omega
 rw [e];exact h
theorem xR {a b:Int} {K:Value→Prop} (h:K (.bool (decide (a=b)))):prP (bnI .eql (U a) (U b)) K:=BK rfl h
theorem sI {a:Nat} {K:Value→Prop} (ha:a<2^32) (h:K (U ((4294967295-a:Nat):Int))):prP (un .xor (U a)) K:=by
 refine BK (v:= .int .u32 (IntKind.u32.wrap (BitVec.ofInt 32 4294967295^^^BitVec.ofInt 32 a).toNat)) rfl ?_
 have e:(BitVec.ofInt 32 4294967295^^^BitVec.ofInt 32 (a:Int)).toNat=4294967295-a:=by
  have h1:BitVec.ofInt 32 4294967295=BitVec.allOnes 32:=by decide
  rw [h1,BitVec.xor_comm,BitVec.xor_allOnes,BitVec.toNat_not,BitVec.ofInt_natCast,BitVec.toNat_ofNat,Nat.mod_eq_of_lt (by omega)]
 rw [e,IntKind.wrap_u32,Int.emod_eq_of_lt (by omega) (by omega)];exact h
theorem VJ {k:IntKind} {n:Int} {K:Value→Prop} (hf:F64 n) (h:K (I n)):prP (cvI .i64 (.int k n)) K:=
 BK (v:= .int .i64 (IntKind.i64.wrap n)) rfl (by rw [LJ hf];exact h)
theorem vE {k:IntKind} {n:Nat} {K:Value→Prop} (hf:n<2^32) (h:K (U n)):prP (cvI .u32 (.int k n)) K:=
 BK (v:= .int .u32 (IntKind.u32.wrap n)) rfl (by rw [IntKind.wrap_u32,Int.emod_eq_of_lt (by omega) (by omega)];exact h)
def by_ (s:ByteArray) (i:Nat):Nat:=(s.data.getD i 0).toNat
theorem fL (s:ByteArray) (i:Nat):by_ s i<256:=UInt8.toNat_lt _
theorem iK {s:ByteArray} {i:Nat} {K:Value→Prop} (hi:i<s.size) (h:K (.int .u8 (by_ s i:Int))):prP (ix (.string s) (iv i)) K:=by
 have h0:(0:Int)≤(i:Int):=by omega
 have hg:s[i]? =some s[i]:=getElem?_pos s i hi
 have hv:s[i].toNat=by_ s i:=by
  have hs:i<s.data.size:=hi
  simp only [by_,Array.getD,hs,dite_true]
  rfl
 have hx:ix (.string s) (iv i)=some (.int .u8 (by_ s i:Int)):=by
  show (if 0≤(i:Int) then (s[(i:Int).toNat]?).map fun b=>Value.int .u8 b.toNat else none)=_
  rw [if_pos h0,Int.toNat_natCast,hg]
  simp only [Option.map_some,hv]
 rw [hx];exact BK rfl h
def sM (c:Nat):Nat:=if c % 2=1 then (c/2)^^^2197175160 else c/2
def kD:Nat→Nat→Nat
 | 0,c=>c
 | k+1,c=>sM (kD k c)
def bW (s:ByteArray):Nat→Nat
 | 0=>4294967295
 | i+1=>kD 8 (bW s i^^^by_ s i)
theorem yT {c:Nat} (h:c<2^32):sM c<2^32:=by
 unfold sM;split
 ·exact Nat.xor_lt_two_pow (by omega) (by omega)
 ·omega
theorem Y9 {c:Nat} (h:c<2^32): ∀k,kD k c<2^32
 | 0=>h
 | k+1=>yT (Y9 h k)
theorem iR (s:ByteArray): ∀i,bW s i<2^32
 | 0=>by show (4294967295:Nat)<2^32;omega
 | i+1=>Y9 (Nat.xor_lt_two_pow (iR s i) (by have:=fL s i;omega)) 8
def crc (s:ByteArray):Nat:=4294967295-bW s s.size
theorem uC (s:ByteArray):crc s<2^32:=by unfold crc;omega
theorem nZ {s:ByteArray} {K:J2} (hs:(s.size:Int)<2^62) (h:K [I (crc s)] []):cl2 ⟨Tryz.prog,w0⟩ 153 ME.sg [.string s] [] K:=by
 refine ME.cl2 ?_
 unfold ME.txt
 refine A7 (fun i=>[.string s,U (bW s i),iv i]) (fun _=>[]) s.size (fun _=>True) rfl rfl trivial (fun R i hi _ hR=> ?_)
 have hc:=iR s i
 refine CM (AJ (AH (fun hlt=> ?_) fun hge=> ?_))
 ·have hlt:i<s.size:=by omega
  replace hR:=hR hlt trivial
  have hb:=fL s i
  have hx:bW s i^^^by_ s i<2^32:=Nat.xor_lt_two_pow hc (by omega)
  refine iK hlt (vE (by omega) (fQ hc (by omega) ?_))
  refine A7 (fun k=>[.string s,U (kD k (bW s i^^^by_ s i)),iv i,iv k]) (fun _=>[]) 8 (fun _=>True) rfl rfl trivial (fun R2 k hk _ hR2=> ?_)
  have hn:=Y9 hx k
  refine AJ (AH (fun hlt2=> ?_) fun hge2=> ?_)
  ·have hlt2:k<8:=by omega
   replace hR2:=hR2 hlt2 trivial
   rw [kD,sM] at hR2
   refine B4 (tT hn (tC (xR (AH (fun ho=> ?_) fun ho=> ?_))))
   ·rw [if_pos (by omega)] at hR2
    exact fQ (b:=2197175160) (by omega) (by omega) (AX (by omega) hR2)
   ·rw [if_neg (by omega)] at hR2
    exact AX (by omega) hR2
  ·have:k=8:=by omega
   subst this
   exact AX (by omega) hR
 ·have:i=s.size:=by omega
  subst this
  exact sI hc (VJ ⟨by omega,by omega⟩ h)
theorem oA {s:ByteArray} {K:J2} (hs:(s.size:Int)<2^62) (h:K [I (crc s)] []):cl2 ⟨Tryz.prog,w0⟩ 180 MD.sg [.string s] [] K:=by
 refine MD.cl2 ?_
 unfold MD.txt
 refine A7 (fun i=>[.string s,I (bW s i),iv i]) (fun _=>[]) s.size (fun _=>True) rfl rfl trivial (fun R i hi _ hR=> ?_)
 have hc:=iR s i
 refine CM (AJ (AH (fun hlt=> ?_) fun hge=> ?_))
 ·have hlt:i<s.size:=by omega
  replace hR:=hR hlt trivial
  have hb:=fL s i
  have hx:bW s i^^^by_ s i<2^32:=Nat.xor_lt_two_pow hc (by omega)
  refine iK hlt (VJ ⟨by omega,by omega⟩ (e6 hc (by omega) ?_))
  refine A7 (fun k=>[.string s,I (kD k (bW s i^^^by_ s i)),iv i,iv k]) (fun _=>[]) 8 (fun _=>True) rfl rfl trivial (fun R2 k hk _ hR2=> ?_)
  have hn:=Y9 hx k
  refine AJ (AH (fun hlt2=> ?_) fun hge2=> ?_)
  ·have hlt2:k<8:=by omega
   replace hR2:=hR2 hlt2 trivial
   rw [kD,sM] at hR2
   refine B4 (J7 (by omega) (by omega) (N6 (by omega) ⟨by omega,by omega⟩ (by omega) (BI (AH (fun ho=> ?_) fun ho=> ?_))))
   ·rw [if_pos (by omega)] at hR2
    exact e6 (a:=kD k (bW s i^^^by_ s i)/2) (b:=2197175160) (by omega) (by omega) (AX (by omega) hR2)
   ·rw [if_neg (by omega)] at hR2
    exact AX (by omega) hR2
  ·have:k=8:=by omega
   subst this
   exact AX (by omega) hR
 ·have:i=s.size:=by omega
  subst this
  refine DM ⟨by omega,by omega⟩ ?_
  have e:(4294967295:Int)-(bW s s.size:Int)=(crc s:Int):=by unfold crc;omega
  rw [e];exact h
def fxL (n:Nat):List Nat:=[n/16777216 % 256,n/65536 % 256,n/256 % 256,n % 256]
def FX (n:Nat):ByteArray:=HU (fxL n)
theorem pU (n:Nat):(FX n).size=4:=by rw [FX,R6];rfl
theorem yE {k:IntKind} {n:Nat} {K:Value→Prop} (h:K (.int .u8 ((n % 256:Nat):Int))):prP (cvI .u8 (.int k n)) K:=
 BK (v:= .int .u8 (IntKind.u8.wrap n)) rfl (by rw [IntKind.wrap_u8];exact h)
theorem WE {k:IntKind} {n:Int} {m:Nat} {K:Value→Prop} (hn:n % 256=m) (h:K (.int .u8 (m:Int))):prP (cvI .u8 (.int k n)) K:=
 BK (v:= .int .u8 (IntKind.u8.wrap n)) rfl (by rw [IntKind.wrap_u8,hn];exact h)
theorem VX {a m:Nat} {b:Int} {k:Nat} {K:Value→Prop} (hb:b=m) (hm:m≤64) (hk:a/2^m=k) (h:K (I (k:Int))):prP (bnI .shr (I a) (I b)) K:=by
 subst hb
 have e:bnI .shr (I a) (I (m:Int))=some (.int .i64 ((a:Int).fdiv (2^min (m:Int).toNat 64))):=by
  show (if (m:Int)<0 then none else _)=_
  rw [if_neg (by omega)];rfl
 have e2:(a:Int).fdiv (2^min (m:Int).toNat 64)=(k:Int):=by
  rw [Int.toNat_natCast,Nat.min_eq_left hm,Int.fdiv_eq_ediv_of_nonneg _ (by exact Int.le_of_lt (Int.pow_pos (by omega))), ←hk]
  simp
 rw [e,e2];exact BK rfl h
theorem sG {b:Int} {K:Value→Prop} (hb:b=32) (h:K (I 4294967296)):prP (bnI .shl (I 1) (I b)) K:=by
 subst hb
 exact BK (v:= .int .i64 4294967296) rfl h
theorem oU {F:J2→J2} {xs:List Value} {cs:List (List T)} (h: ∀R:J2,(∀xs cs,F R xs cs→R xs cs)→F R xs cs):BA F xs cs:=sU h
theorem Q1 (a b:List Nat):HU (a++b)=HU a++HU b:=by
 have: ∀(b:List Nat) (x y:ByteArray),b.foldl (fun b n=>b.push (UInt8.ofNat n)) (x++y)=x++b.foldl (fun b n=>b.push (UInt8.ofNat n)) y:=by
  intro b
  induction b with
  | nil=>intro x y;rfl
  | cons n b ih=>
    intro x y
    rw [List.foldl_cons,List.foldl_cons, ←ih]
    congr 1
    apply ByteArray.ext
    simp [ByteArray.push]
 rw [HU,List.foldl_append, ←HU,HU]
 have h:=this b (a.foldl (fun b n=>b.push (UInt8.ofNat n)) ByteArray.empty) ByteArray.empty
 rw [ByteArray.append_empty] at h
 exact h
theorem pI {n:Nat} {K:Value→Prop} (h:K (.string (HU [n]))):prP (b2T [T.c (.int .u8 (n:Int))]) K:=by
 have:[T.c (.int .u8 (n:Int))]=tB [n]:=rfl
 rw [this,fT];exact BK rfl h
theorem hD {n:Nat} {K:J2} (hn:n<2^32) (h:K [.string (FX n)] []):cl2 ⟨Tryz.prog,w0⟩ 152 JW.sg [I n,I 4] [] K:=by
 refine JW.cl2 ?_
 unfold JW.txt
 have fin: ∀{K:J2},K [.string (FX n)] []→prP (b2T ((((([]++[T.c (.int .u8 ((n/16777216 % 256:Nat):Int))])++[T.c (.int .u8 ((n/65536 % 256:Nat):Int))])++[T.c (.int .u8 ((n/256 % 256:Nat):Int))])++[T.c (.int .u8 ((n % 256:Nat):Int))]))) fun t=>K [t] []:=fun h=>by
  have:(((([]++[T.c (.int .u8 ((n/16777216 % 256:Nat):Int))])++[T.c (.int .u8 ((n/65536 % 256:Nat):Int))])++[T.c (.int .u8 ((n/256 % 256:Nat):Int))])++[T.c (.int .u8 ((n % 256:Nat):Int))])=tB (fxL n):=rfl
  rw [this,fT];exact BK rfl h
 repeat' (first | refine HB ?_ | refine sG (by omega) ?_ | refine M4 ⟨by omega,by omega⟩ ?_ | refine BM ?_ | refine OW ?_ | refine CJ (by first | with_reducible assumption | omega) rfl ?_ | refine BV (by first | with_reducible assumption | omega) ?_ | refine CF ?_ | refine AX (by omega) ?_ | simp only [AM,AT,AL,AK,AN,AE,AI,AV,AU,AS,AP,AQ,AO,AR,BD,BE,BH,BG,BJ,BL,BF,AZ,A6,A1,AY,A5,A4])
 refine oU fun R hR=> ?_
 repeat' (first | refine hR _ _ ?_ | refine VX (m:=24) (k:=n/16777216) (by omega) (by omega) (by omega) ?_ | refine VX (m:=16) (k:=n/65536) (by omega) (by omega) (by omega) ?_ | refine VX (m:=8) (k:=n/256) (by omega) (by omega) (by omega) ?_ | refine VX (m:=0) (k:=n) (by omega) (by omega) (by omega) ?_ | refine yE ?_ | refine M4 ⟨by omega,by omega⟩ ?_ | exact fin h | refine D8 rfl (by simp [cnt,nxc]) ?_ | refine BS ?_ | refine BQ ?_ | refine FE ?_ | refine AX (by omega) ?_ | refine DM ⟨by omega,by omega⟩ ?_)
theorem xI (n:Nat):(HU [n]).size=1:=by rw [R6];rfl
theorem gX {n:Nat} {K:J2} (hn:n<2^32) (h:K [.string (FX n)] []):cl2 ⟨Tryz.prog,w0⟩ 179 J6.sg [I n,I 4] [] K:=by
 refine J6.cl2 ?_
 unfold J6.txt
 have e:FX n=HU [n/256/256/256 % 256]++(HU [n/256/256 % 256]++(HU [n/256 % 256]++(HU [n % 256]++⟨#[]⟩))):=by
  have e0:(⟨#[]⟩:ByteArray)=HU []:=rfl
  rw [e0, ←Q1, ←Q1, ←Q1, ←Q1]
  simp only [List.cons_append,List.nil_append,FX,fxL]
  congr 2
  ·omega
  ·congr 1;omega
 rw [e] at h
 have z0:(⟨#[]⟩:ByteArray).size=0:=rfl
 have z1:=xI
 repeat' (first | refine DU ?_ | refine BM ?_ | refine OW ?_ | refine CJ (by first | with_reducible assumption | omega) rfl ?_ | refine BQ ?_ | refine AJ ?_ | refine CF ?_)
 refine oU fun R hR=> ?_
 refine AJ (CT (by omega) (J7 (by omega) (by omega) (WE (m:=n % 256) (by omega) (pI (CQ (by rw [z1,z0];omega) (N6 (by omega) ⟨by omega,by omega⟩ (by omega) (BX ⟨by omega,by omega⟩ ?_)))))))
 refine hR _ _ (AJ (CT (by omega) (J7 (by omega) (by omega) (WE (m:=n/256 % 256) (by omega) (pI (CQ (by simp only [ByteArray.size_append,z1,z0];omega) (N6 (by omega) ⟨by omega,by omega⟩ (by omega) (BX ⟨by omega,by omega⟩ ?_))))))))
 refine hR _ _ (AJ (CT (by omega) (J7 (by omega) (by omega) (WE (m:=n/256/256 % 256) (by omega) (pI (CQ (by simp only [ByteArray.size_append,z1,z0];omega) (N6 (by omega) ⟨by omega,by omega⟩ (by omega) (BX ⟨by omega,by omega⟩ ?_))))))))
 refine hR _ _ (AJ (CT (by omega) (J7 (by omega) (by omega) (WE (m:=n/256/256/256 % 256) (by omega) (pI (CQ (by simp only [ByteArray.size_append,z1,z0];omega) (N6 (by omega) ⟨by omega,by omega⟩ (by omega) (BX ⟨by omega,by omega⟩ ?_))))))))
 exact hR _ _ (AJ (BV (by omega) (G9 (BV (by omega) h))))
def frm (n:Int) (p:ByteArray):ByteArray:=if (0≤n∧n≤400)∧p.size≤200 then ((V n++V p.size)++p)++FX (crc ((V n++V p.size)++p)) else ⟨#[]⟩
theorem XF {n:Int} {p:ByteArray} {K:J2} (hp:(p.size:Int)<2^62) (h:K [.string (frm n p)] []):cl2 ⟨Tryz.prog,w0⟩ 95 FG.sg [I n, .string p] [] K:=by
 refine FG.cl2 ?_
 unfold FG.txt
 have h1:=JI n;have h2:=JI p.size
 have h3:=pU (crc ((V n++V p.size)++p))
 repeat' (first | refine HB ?_ | refine LM ⟨by omega,by omega⟩ ?_ | refine nZ (by simp only [ByteArray.size_append];omega) ?_ | refine hD (uC _) ?_ | refine BM ?_ | refine JL (by first | with_reducible assumption | omega) ?_ | refine F8 (by first | with_reducible assumption | omega) ?_ | refine CL (by first | with_reducible assumption | omega) rfl ?_ | refine CJ (by first | with_reducible assumption | omega) rfl ?_ | refine BS ?_ | refine AJ ?_ | refine CF ?_ | refine CM ?_ | refine CQ (by first | omega | (simp only [ByteArray.size_append];omega)) ?_ | refine AH (fun _=> ?_) (fun _=> ?_) | refine HC (fun _=> ?_) (fun _=> ?_))
 ·rw [frm,if_neg (by omega)] at h;exact h
 ·rw [frm,if_pos (by omega)] at h;exact h
 ·rw [frm,if_neg (by omega)] at h;exact h
theorem XT {n:Int} {p:ByteArray} {K:J2} (hp:(p.size:Int)<2^62) (h:K [.string (frm n p)] []):cl2 ⟨Tryz.prog,w0⟩ 137 FO.sg [I n, .string p] [] K:=by
 refine FO.cl2 ?_
 unfold FO.txt
 have h1:=JI n;have h2:=JI p.size
 have h3:=pU (crc ((V n++V p.size)++p))
 repeat' (first | refine DU ?_ | refine KR ⟨by omega,by omega⟩ ?_ | refine oA (by simp only [ByteArray.size_append];omega) ?_ | refine gX (uC _) ?_ | refine BM ?_ | refine JL (by first | with_reducible assumption | omega) ?_ | refine F8 (by first | with_reducible assumption | omega) ?_ | refine CL (by first | with_reducible assumption | omega) rfl ?_ | refine CJ (by first | with_reducible assumption | omega) rfl ?_ | refine BS ?_ | refine AJ ?_ | refine CF ?_ | refine CM ?_ | refine CQ (by first | omega | (simp only [ByteArray.size_append];omega)) ?_ | refine AH (fun _=> ?_) (fun _=> ?_) | refine HC (fun _=> ?_) (fun _=> ?_))
 ·rw [frm,if_neg (by omega)] at h;exact h
 ·rw [frm,if_pos (by omega)] at h;exact h
 ·rw [frm,if_neg (by omega)] at h;exact h
def XZ:ByteArray:=⟨#[72,76,79,71,1]⟩
attribute [irreducible] frm crc FX
def frs (l:List ByteArray):Nat→ByteArray
 | 0=>XZ
 | i+1=>frs l i++frm i (gS l i)
def Bx (p:ByteArray):Prop:=1≤(p.size:Int)∧(p.size:Int)≤200
instance (p:ByteArray):Decidable (Bx p):=inferInstanceAs (Decidable (_∧_))
def Bq (l:List ByteArray):ByteArray:=if l.length≤400∧ ∀p∈l,Bx p then frs l l.length++frm l.length ⟨#[]⟩ else ⟨#[]⟩
theorem tU {l:List ByteArray} {i:Nat} (h:i<l.length):gS l i∈l:=by rw [←U7 h];exact List.getElem_mem h
end Go.Proofs.YtnhicpkhkaihoaaGreat.P
namespace Go.Proofs.YtnhicpkhkaihoaaGreat.P
open Go Go.Proofs.YtnhicpkhkaihoaaGreat Go.Proofs.YtnhicpkhkaihoaaGreat.Eng
set_option maxHeartbeats 4000000
set_option linter.unusedVariables false
set_option linter.unusedSimpArgs false
attribute [local irreducible] prP gP gE gF AG ixW ldc ldg ldl stc stg scW mkW apW BA cl2 B6 G8 C3
variable {w0:World}
def IB (n:Int) (l:List ByteArray) (o:Op5) (a:An):ByteArray×Int×List ByteArray:=NM n l o.kind o.a o.b o.c o.site a.code a.val a.freed
theorem bH (n:Int) (l:List ByteArray) (o:Op5) (a:An):(IB n l o a).1.size≤127∧(IB n l o a).2.2.length≤l.length+1:=by
 unfold IB NM
 split
 ·rename_i h
  obtain ⟨_,hb,_,_,_,_,hx,hl,_⟩:=S4 h
  have h1:=XQ n l o.kind o.a o.b o.c o.site a.code a.val a.freed.length
  have h2:=(iJ (p:=(base n l o.kind o.a o.b o.c o.site a.code a.val a.freed.length,o.a)) hb hx a.freed.length (Nat.le_refl _)).2
  refine ⟨by simp only at h2 ⊢;omega, ?_⟩
  simp only [eA]
  split
  ·omega
  ·simp
 ·exact ⟨Nat.zero_le _,Nat.le_succ _⟩
def enc (ops:List Op5) (ans:List An):Nat→Option (List ByteArray×Int×List ByteArray)
 | 0=>some ([],0,[])
 | i+1=>match enc ops ans i with
   | none=>none
   | some p=>if (IB p.2.1 p.2.2 (po ops i) (an ans i)).1=⟨#[]⟩ then none else some (p.1++[(IB p.2.1 p.2.2 (po ops i) (an ans i)).1],(IB p.2.1 p.2.2 (po ops i) (an ans i)).2)
def encode (ops:List Op5) (ans:List An):ByteArray:=if ops.length≠ans.length∨ops.length≥400 then ⟨#[]⟩ else match enc ops ans ops.length with
 | none=>⟨#[]⟩
 | some p=>Bq p.1
structure Ao (ops:List Op5) (ans:List An) (q:Nat×List ByteArray×Int×List ByteArray):Prop where
 eq:enc ops ans q.1=some q.2
 le:q.1≤ops.length
 al:q.2.1.length=q.1
 sl:q.2.2.2.length≤q.1
 sz: ∀i,(gS q.2.1 i).size≤127
theorem yX {l:List ByteArray} {s:ByteArray} {b:Nat} (h: ∀i,(gS l i).size≤b) (hs:s.size≤b) (i:Nat):(gS (l++[s]) i).size≤b:=by
 unfold gS at h ⊢
 rcases Nat.lt_trichotomy i l.length with h1 | h1 | h1
 ·have:=h i
  rw [List.getD_eq_getElem?_getD] at this ⊢
  rw [List.getElem?_append_left h1];exact this
 ·subst h1
  rw [List.getD_eq_getElem?_getD,List.getElem?_append_right (Nat.le_refl _)]
  simpa using hs
 ·rw [List.getD_eq_getElem?_getD,List.getElem?_eq_none (by simp;omega)];exact Nat.zero_le _
theorem Ao.next {ops:List Op5} {ans:List An} {q:Nat×List ByteArray×Int×List ByteArray} (h:Ao ops ans q) (hlt:q.1<ops.length) (hne:(IB q.2.2.1 q.2.2.2 (po ops q.1) (an ans q.1)).1≠⟨#[]⟩):
  Ao ops ans (q.1+1,q.2.1++[(IB q.2.2.1 q.2.2.2 (po ops q.1) (an ans q.1)).1],(IB q.2.2.1 q.2.2.2 (po ops q.1) (an ans q.1)).2):=by
 obtain ⟨h1,h2,h3,h4,h5⟩:=h
 have hz:=bH q.2.2.1 q.2.2.2 (po ops q.1) (an ans q.1)
 refine ⟨by rw [enc,h1];exact if_neg hne,hlt,by simp [h3], ?_,yX h5 hz.1⟩
 have:=hz.2
 simp only at this ⊢;omega
attribute [irreducible] IB
end Go.Proofs.YtnhicpkhkaihoaaGreat.P
namespace Go.Proofs.YtnhicpkhkaihoaaGreat.P
open Go Go.Proofs.YtnhicpkhkaihoaaGreat Go.Proofs.YtnhicpkhkaihoaaGreat.Eng
set_option maxHeartbeats 4000000
set_option linter.unusedVariables false
set_option linter.unusedSimpArgs false
attribute [local irreducible] prP gP gE gF AG ixW ldc ldg ldl stc stg scW mkW apW BA cl2 B6 G8 C3
variable {w0:World}
theorem Cn {s:ByteArray} {a b:Nat} {K:Value→Prop} (h1:a≤b) (h2:b≤s.size) (h:K (.string (s.extract a b))):prP (scS (.string s) (some (iv a)) (some (iv b))) K:=by
 have:scS (.string s) (some (iv a)) (some (iv b))=some (.string (s.extract a b)):=by
  simp only [scS,bnd,iv,Int.natCast_nonneg,if_true,Option.bind_some,Int.toNat_natCast]
  rw [if_pos ⟨h1,h2⟩]
 rw [this];exact BK rfl h
theorem xH {s:ByteArray} {b:Nat} {K:Value→Prop} (h2:b≤s.size) (h:K (.string (s.extract 0 b))):prP (scS (.string s) none (some (iv b))) K:=by
 have:scS (.string s) none (some (iv b))=some (.string (s.extract 0 b)):=by
  simp only [scS,bnd,iv,Int.natCast_nonneg,if_true,Option.bind_some,Int.toNat_natCast]
  rw [if_pos ⟨Nat.zero_le _,h2⟩]
 rw [this];exact BK rfl h
def dr (s:ByteArray) (a:Nat):ByteArray:=s.extract a s.size
theorem DY (s:ByteArray) (a:Nat):(dr s a).size=s.size-a:=by simp [dr]
theorem kI {s:ByteArray} {a:Nat} {K:Value→Prop} (h2:a≤s.size) (h:K (.string (dr s a))):prP (scS (.string s) (some (iv a)) none) K:=by
 have:scS (.string s) (some (iv a)) none=some (.string (dr s a)):=by
  simp only [scS,bnd,iv,Int.natCast_nonneg,if_true,Option.bind_some,Int.toNat_natCast]
  rw [if_pos ⟨h2,Nat.le_refl _⟩];rfl
 rw [this];exact BK rfl h
theorem jV {s:ByteArray} {a:Int} {K:Value→Prop} (h1:0≤a) (h2:a≤s.size) (h:K (.string (dr s a.toNat))):prP (scS (.string s) (some (I a)) none) K:=by
 obtain ⟨n,rfl⟩: ∃n:Nat,a=n:=⟨a.toNat,by omega⟩
 exact kI (by omega) h
theorem s9 {s:ByteArray} {b:Int} {K:Value→Prop} (h1:0≤b) (h2:b≤s.size) (h:K (.string (s.extract 0 b.toNat))):prP (scS (.string s) none (some (I b))) K:=by
 obtain ⟨n,rfl⟩: ∃n:Nat,b=n:=⟨b.toNat,by omega⟩
 exact xH (by omega) h
theorem gD {s:ByteArray} {a b:Int} {K:Value→Prop} (h0:0≤a) (h1:a≤b) (h2:b≤s.size) (h:K (.string (s.extract a.toNat b.toNat))):prP (scS (.string s) (some (I a)) (some (I b))) K:=by
 obtain ⟨n,rfl⟩: ∃n:Nat,a=n:=⟨a.toNat,by omega⟩
 obtain ⟨m,rfl⟩: ∃n:Nat,b=n:=⟨b.toNat,by omega⟩
 exact Cn (by omega) (by omega) h
theorem aE (s:ByteArray) (a b:Nat) (h:a+b≤s.size):dr (dr s a) b=dr s (a+b):=by
 apply ByteArray.ext
 simp only [dr,ByteArray.data_extract,ByteArray.size_extract]
 rw [Array.extract_extract]
 congr 1
 omega
theorem Bp (s:ByteArray):dr s 0=s:=by
 apply ByteArray.ext
 simp only [dr,ByteArray.data_extract]
 exact Array.extract_size
def bys (s:ByteArray) (k:Nat):List Nat:=(List.range k).map (by_ s)
def MW:List Nat→Nat
 | []=>0
 | x::r=>x % 128+128*MW r
def QR:Bool→List Nat→Bool
 | _,[]=>false
 | f,[x]=>decide (x<128)&&(f||decide (x≠0))
 | _,x::y::r=>decide (x≥128)&&QR false (y::r)
theorem lK: ∀{L:List Nat},QR false L=true→1≤MW L
 | [],h=>by simp [QR] at h
 | [x],h=>by simp [QR] at h;simp only [MW];omega
 | x::y::r,h=>by
   simp only [QR,Bool.and_eq_true] at h
   have:=lK h.2
   simp only [MW] at this ⊢;omega
theorem uI: ∀{L:List Nat} {f:Bool} {k:Nat},(∀x∈L,x<256)→QR f L=true→L.length≤k+1→vd k (MW L)=L
 | [],f,k,_,h,_=>by simp [QR] at h
 | [x],f,k,_,h,_=>by
   simp only [QR,Bool.and_eq_true,decide_eq_true_eq] at h
   have h1:x % 128+128*0=x:=by omega
   simp only [MW,h1]
   cases k with
   | zero=>rfl
   | succ k=>rw [vd,if_neg (by omega)]
 | x::y::r,f,0,_,h,hl=>by simp at hl
 | x::y::r,f,k+1,hb,h,hl=>by
   simp only [QR,Bool.and_eq_true,decide_eq_true_eq] at h
   have h1:=lK h.2
   have hx:=hb x (by simp)
   have h2:MW (x::y::r)=x % 128+128*MW (y::r):=rfl
   have h3:MW (x::y::r)/128=MW (y::r):=by omega
   have h4:128+MW (x::y::r) % 128=x:=by omega
   rw [vd,if_pos (by omega),h3,h4,uI (L:=y::r) (fun z hz=>hb z (by simp [hz])) h.2 (by simpa using hl)]
theorem Ci: ∀k n,vd k n≠[]
 | 0,n=>by simp [vd]
 | k+1,n=>by unfold vd;split <;> simp
theorem wA: ∀{k n:Nat},n<128^(k+1)→QR true (vd k n)=true∧(1≤n→QR false (vd k n)=true)
 | 0,n,h=>by simp at h;simp [vd,QR,h];omega
 | k+1,n,h=>by
   unfold vd
   split
   ·rename_i hge
    have hd:n/128<128^(k+1):=by rw [Nat.pow_succ] at h;omega
    have h2:=(wA hd).2 (by omega)
    cases hv:vd k (n/128) with
    | nil=>exact absurd hv (Ci _ _)
    | cons y r=>
      rw [hv] at h2
      have:QR false (y::r)=true:=h2
      simp [QR,this]
   ·simp [QR];omega
theorem gJ: ∀L:List Nat,MW L<128^L.length
 | []=>by simp [MW]
 | x::r=>by have:=gJ r;simp only [MW,List.length_cons,Nat.pow_succ];omega
theorem Q3 (s:ByteArray) (k:Nat):(bys s k).length=k:=by simp [bys]
theorem uU (s:ByteArray) (k:Nat): ∀x∈bys s k,x<256:=by
 intro x hx
 obtain ⟨i,_,rfl⟩:=List.mem_map.1 hx
 exact fL s i
def SG (s:ByteArray) (k:Nat):Nat:=MW (bys s k)
theorem Y5 (s:ByteArray) {k:Nat} (hk:k≤7):SG s k<2^49:=by
 have h:=gJ (bys s k)
 rw [Q3] at h
 have:128^k≤128^7:=Nat.pow_le_pow_right (by omega) hk
 have:(128:Nat)^7=2^49:=by decide
 unfold SG;omega
theorem fF: ∀(L:List Nat) (x:Nat),MW (L++[x])=MW L+x % 128*128^L.length
 | [],x=>by simp [MW]
 | y::L,x=>by
   simp only [List.cons_append,MW,fF L x,List.length_cons,Nat.pow_succ]
   rw [Nat.mul_add]
   have:x % 128*(128^L.length*128)=128*(x % 128*128^L.length):=by
    rw [←Nat.mul_assoc,Nat.mul_comm]
   omega
theorem kJ (s:ByteArray) (k:Nat):bys s (k+1)=bys s k++[by_ s k]:=by simp [bys,List.range_succ]
theorem rZ (s:ByteArray) (k:Nat):SG s (k+1)=SG s k+by_ s k % 128*128^k:=by rw [SG,kJ,fF,Q3];rfl
theorem fN: ∀(L:List Nat) (f:Bool) (x:Nat),QR f (L++[x])=(L.all (fun y=>decide (y≥128))&&(decide (x<128)&&((f&&L.isEmpty)||decide (x≠0))))
 | [],f,x=>by simp [QR]
 | [y],f,x=>by simp [QR]
 | y::z::r,f,x=>by
   have h:=fN (z::r) false x
   simp only [List.cons_append] at h ⊢
   rw [QR,h]
   simp [Bool.and_assoc]
def W4 (s:ByteArray) (k:Nat):Bool:=QR true (bys s k)
theorem TU (s:ByteArray) (k:Nat):W4 s (k+1)=true↔(∀i,i<k→128≤by_ s i)∧by_ s k<128∧(k=0∨by_ s k≠0):=by
 rw [W4,kJ,fN]
 simp only [Bool.and_eq_true,Bool.or_eq_true,decide_eq_true_eq,List.all_eq_true,List.isEmpty_iff,true_and]
 have h0:bys s k=[]↔k=0:=by rw [←List.length_eq_zero_iff,Q3]
 rw [h0]
 constructor
 ·rintro ⟨h1,h2,h3⟩
  exact ⟨fun i hi=>h1 _ (List.mem_map.2 ⟨i,List.mem_range.2 hi,rfl⟩),h2,h3⟩
 ·rintro ⟨h1,h2,h3⟩
  refine ⟨fun y hy=> ?_,h2,h3⟩
  obtain ⟨i,hi,rfl⟩:=List.mem_map.1 hy
  exact h1 i (List.mem_range.1 hi)
theorem SP (l:List Nat):(HU l).data.toList=l.map UInt8.ofNat:=by
 have: ∀(l:List Nat) (b:ByteArray),(l.foldl (fun b n=>b.push (UInt8.ofNat n)) b).data.toList=b.data.toList++l.map UInt8.ofNat:=by
  intro l
  induction l with
  | nil=>intro b;simp
  | cons a l ih=>intro b;rw [List.foldl_cons,ih];simp
 rw [HU,this];rfl
theorem kX {s:ByteArray} {k:Nat} (hk:k≤s.size):s.extract 0 k=HU (bys s k):=by
 apply ByteArray.ext
 apply Array.ext'
 rw [SP,ByteArray.data_extract,Array.toList_extract]
 apply List.ext_getElem
 ·simp [bys];have:s.size=s.data.size:=rfl;omega
 ·intro i h1 h2
  have hi:i<k:=by simpa [bys] using h2
  have his:i<s.data.size:=by have:s.size=s.data.size:=rfl;omega
  simp [bys,by_,Array.getD,his]
  intro hcon;have:s.size=s.data.size:=rfl;omega
theorem mY {a b:List Nat} (ha: ∀x∈a,x<256) (hb: ∀x∈b,x<256) (h:HU a=HU b):a=b:=by
 have h1:a.map UInt8.ofNat=b.map UInt8.ofNat:=by rw [←SP, ←SP,h]
 have h2:=congrArg (List.map UInt8.toNat) h1
 simp only [List.map_map] at h2
 have: ∀l:List Nat,(∀x∈l,x<256)→l.map (UInt8.toNat ∘ UInt8.ofNat)=l:=by
  intro l hl
  induction l with
  | nil=>rfl
  | cons x l ih=>
    have hx:=hl x (by simp)
    rw [List.map_cons,ih fun y hy=>hl y (by simp [hy])]
    simp [Nat.mod_eq_of_lt hx]
 rwa [this a ha,this b hb] at h2
theorem zH: ∀(k n:Nat),n<128^(k+1)→ ∀x∈vd k n,x<256
 | 0,n,h=>by simp at h;simp [vd];omega
 | k+1,n,h=>by
   unfold vd
   split
   ·intro x hx
    rcases List.mem_cons.1 hx with rfl | hx
    ·omega
    ·exact zH k (n/128) (by rw [Nat.pow_succ] at h;omega) x hx
   ·simp;omega
theorem Cq {n:Nat} (h:n<2^49):V n=HU (vd 6 n):=by
 rw [V,if_pos (by rw [LL];omega),Int.toNat_natCast]
theorem XH {s:ByteArray} {k:Nat} (hk:k≤7) (hs:k≤s.size):V (SG s k)=s.extract 0 k↔W4 s k=true:=by
 have hlt:=Y5 s hk
 have h49:(128:Nat)^(6+1)=2^49:=by decide
 rw [Cq hlt,kX hs]
 constructor
 ·intro h
  have:=mY (zH 6 _ (by rw [h49];exact hlt)) (uU s k) h
  rw [W4, ←this]
  exact (wA (by rw [h49];exact hlt)).1
 ·intro h
  rw [SG,uI (uU s k) h (by rw [Q3];omega)]
def rvF (s:ByteArray):Nat→Nat→Int×Int
 | 0,_=>(0,0)
 | f+1,j=>if j≤s.size∧W4 s j=true then ((SG s j:Int),(j:Int)) else rvF s f (j+1)
def rv (s:ByteArray):Int×Int:=rvF s 7 1
theorem pZ {s:ByteArray} {j:Nat} (hc:j≤s.size∧W4 s j=true): ∀(f i:Nat),i≤j→j<i+f→(∀m,i≤m→m<j→ ¬(m≤s.size∧W4 s m=true))→rvF s f i=((SG s j:Int),(j:Int))
 | 0,i,h1,h2,_=>by omega
 | f+1,i,h1,h2,hn=>by
   rcases Nat.lt_or_ge i j with h | h
   ·rw [rvF,if_neg (hn i (Nat.le_refl _) h)]
    exact pZ hc f (i+1) h (by omega) fun m hm=>hn m (by omega)
   ·have:i=j:=by omega
    subst this
    rw [rvF,if_pos hc]
theorem V8 {s:ByteArray}: ∀(f i:Nat),(∀m,i≤m→m<i+f→ ¬(m≤s.size∧W4 s m=true))→rvF s f i=(0,0)
 | 0,i,_=>rfl
 | f+1,i,hn=>by
   rw [rvF,if_neg (hn i (Nat.le_refl _) (by omega))]
   exact V8 f (i+1) fun m hm hm2=>hn m (by omega) (by omega)
theorem Bz (s:ByteArray):rv s=(0,0)∨ ∃j:Nat,1≤j∧j≤7∧j≤s.size∧W4 s j=true∧rv s=((SG s j:Int),(j:Int)):=by
 have: ∀f i,1≤i→i+f≤8→rvF s f i=(0,0)∨ ∃j:Nat,1≤j∧j≤7∧j≤s.size∧W4 s j=true∧rvF s f i=((SG s j:Int),(j:Int)):=by
  intro f
  induction f with
  | zero=>intro i _ _;exact .inl rfl
  | succ f ih=>
    intro i h1 h2
    by_cases hc:i≤s.size∧W4 s i=true
    ·exact .inr ⟨i,h1,by omega,hc.1,hc.2,by rw [rvF,if_pos hc]⟩
    ·rw [rvF,if_neg hc];exact ih (i+1) (by omega) (by omega)
 exact this 7 1 (by omega) (by omega)
theorem uR {a m:Nat} {b:Int} {K:Value→Prop} (hb:b=m) (hm:m≤64) (hf:a*2^m<2^63) (h:K (I ((a*2^m:Nat):Int))):prP (bnI .shl (I a) (I b)) K:=by
 subst hb
 have e:bnI .shl (I a) (I (m:Int))=some (.int .i64 (IntKind.i64.wrap ((a:Int)*2^min (m:Int).toNat 64))):=by
  show (if (m:Int)<0 then none else _)=_
  rw [if_neg (by omega)];rfl
 have e2:(a:Int)*2^min (m:Int).toNat 64=((a*2^m:Nat):Int):=by
  rw [Int.toNat_natCast,Nat.min_eq_left hm];simp
 rw [e,e2,LJ ⟨by omega,by omega⟩];exact BK rfl h
theorem KU {s:ByteArray} {K:J2} (hs:(s.size:Int)<2^62) (h:K [I (rv s).1,I (rv s).2] []):cl2 ⟨Tryz.prog,w0⟩ 139 C0.sg [.string s] [] K:=by
 refine C0.cl2 ?_
 unfold C0.txt
 refine A7 (fun k=>[.string s,I (SG s k),iv k]) (fun _=>[]) 7 (fun k=>k≤s.size∧ ∀i,i<k→128≤by_ s i) rfl rfl ⟨Nat.zero_le _,fun i hi=>by omega⟩ (fun R k hk hP hR=> ?_)
 obtain ⟨hks,hP⟩:=hP
 have KJ:(7≤k∨s.size≤k)→K [I 0,I 0] []:=fun hc=>by
  have:rv s=(0,0):=V8 7 1 fun m h1 h2 ⟨h3,h4⟩=>by
   obtain ⟨m,rfl⟩: ∃m',m=m'+1:=⟨m-1,by omega⟩
   rw [TU] at h4
   have:=hP m (by omega);omega
  rw [this] at h;exact h
 repeat' (first | exact KJ (by omega) | refine iK (by omega) ?_ | refine BM ?_ | refine JA (by first | with_reducible assumption | omega) ?_ | refine L5 (by first | with_reducible assumption | omega) ?_ | refine CL (by first | with_reducible assumption | omega) rfl ?_ | refine CJ (by first | with_reducible assumption | omega) rfl ?_ | refine BQ ?_ | refine AJ ?_ | refine CM ?_ | refine AH (fun _=> ?_) (fun _=> ?_) | refine JR (fun _=> ?_) (fun _=> ?_) | simp only [AM,AT,AL,AK,AN,AE,AI,AV,AU,AS,AP,AQ,AO,AR,BD,BE,BH,BG,BJ,BL,BF,AZ,A6,A1,AY,A5,A4])
 have hb:=fL s k
 have hv:=Y5 s (k:=k) (by omega)
 have h7:(128:Nat)^k=2^(7*k):=by rw [Nat.pow_mul]
 have hle:(2:Nat)^(7*k)≤2^42:=Nat.pow_le_pow_right (by omega) (by omega)
 have hmul:by_ s k % 128*2^(7*k)≤127*2^42:=Nat.mul_le_mul (by omega) hle
 refine VJ ⟨by omega,by omega⟩ (J7 (by omega) (by omega) (M4 ⟨by omega,by omega⟩ (uR (a:=by_ s k % 128) (m:=7*k) (by omega) (by omega) (by omega) (BX ⟨by omega,by omega⟩ ?_))))
 have e:(SG s k:Int)+((by_ s k % 128*2^(7*k):Nat):Int)=(SG s (k+1):Int):=by rw [rZ,h7];omega
 rw [e]
 refine JD (AH (fun hge=> ?_) fun hlt=> ?_)
 ·refine AX (by omega) (hR (by omega) ⟨by omega,fun i hi=> ?_⟩)
  rcases Nat.lt_succ_iff_lt_or_eq.1 hi with h1 | rfl
  ·exact hP i h1
  ·omega
 ·have none': ∀m,1≤m→m<k+1→ ¬(m≤s.size∧W4 s m=true):=fun m h1 h2 ⟨h3,h4⟩=>by
   obtain ⟨m,rfl⟩: ∃m',m=m'+1:=⟨m-1,by omega⟩
   rw [TU] at h4
   have:=hP m (by omega);omega
  repeat' (first | refine BM ?_ | refine CL (by first | with_reducible assumption | omega) rfl ?_ | refine CJ (by first | with_reducible assumption | omega) rfl ?_ | refine BQ ?_ | refine AJ ?_ | refine BI ?_ | refine AX (by omega) ?_ | refine AH (fun _=> ?_) (fun _=> ?_) | refine JR (fun _=> ?_) (fun _=> ?_))
  ·have:rv s=(0,0):=V8 7 1 fun m h1 h2 hh=>by
    rcases Nat.lt_or_ge m (k+1) with h3 | h3
    ·exact none' m h1 h3 hh
    ·obtain ⟨m,rfl⟩: ∃m',m=m'+1:=⟨m-1,by omega⟩
     have h4:=(TU s m).1 hh.2
     rcases Nat.lt_or_ge k m with h5 | h5
     ·have:=h4.1 k h5;omega
     ·have:m=k:=by omega
      subst this
      omega
   rw [this] at h;exact h
  all_goals
   have:rv s=((SG s (k+1):Int),((k+1:Nat):Int)):=pZ ⟨by omega,(TU s k).2 ⟨hP,by omega,by omega⟩⟩ 7 1 (by omega) (by omega) none'
   rw [this] at h;exact h
theorem ID {s:ByteArray} {K:J2} (hs:(s.size:Int)<2^62) (h:K [I (rv s).1,I (rv s).2] []):cl2 ⟨Tryz.prog,w0⟩ 101 CE.sg [.string s] [] K:=by
 refine CE.cl2 ?_
 unfold CE.txt
 refine C8 (α:=Nat) (fun k=>[.string s,iv k]) (fun _=>[]) (fun k=>8-k) (fun k=>1≤k∧k≤8∧ ∃f,f+k=8∧rvF s f k=rv s) 1 rfl rfl ⟨by omega,by omega,7,rfl,rfl⟩ (fun R k hP hR=> ?_)
 obtain ⟨h1,h8,f,hf,hrv⟩:=hP
 have KJ:(7<k∨s.size<k)→K [I 0,I 0] []:=fun hc=>by
  have:rvF s f k=(0,0):=V8 f k fun m m1 m2 ⟨m3,m4⟩=>by omega
  rw [←hrv,this] at h;exact h
 repeat' (first | exact KJ (by omega) | refine BM ?_ | refine JA (by first | with_reducible assumption | omega) ?_ | refine L5 (by first | with_reducible assumption | omega) ?_ | refine CL (by first | with_reducible assumption | omega) rfl ?_ | refine CJ (by first | with_reducible assumption | omega) rfl ?_ | refine BQ ?_ | refine FE ?_ | refine CM ?_ | refine DM ⟨by omega,by omega⟩ ?_ | refine AH (fun _=> ?_) (fun _=> ?_) | refine JR (fun _=> ?_) (fun _=> ?_) | simp only [AM,AT,AL,AK,AN,AE,AI,AV,AU,AS,AP,AQ,AO,AR,BD,BE,BH,BG,BJ,BL,BF,AZ,A6,A1,AY,A5,A4])
 obtain ⟨f,rfl⟩: ∃f',f=f'+1:=⟨f-1,by omega⟩
 have drop: ∀j,j<k→MW ((bys s k).drop j)=by_ s j % 128+128*MW ((bys s k).drop (j+1)):=fun j hj=>by
  have hjl:j<(bys s k).length:=by rw [Q3];exact hj
  rw [List.drop_eq_getElem_cons hjl]
  simp [MW,bys]
 have small: ∀j,MW ((bys s k).drop j)<2^49:=fun j=>by
  have h:=gJ ((bys s k).drop j)
  rw [List.length_drop,Q3] at h
  have:128^(k-j)≤128^7:=Nat.pow_le_pow_right (by omega) (by omega)
  have:(128:Nat)^7=2^49:=by decide
  omega
 refine C8 (α:=Nat) (fun j=>[.string s,iv k,I (MW ((bys s k).drop j)),I ((j:Int)-1)]) (fun _=>[]) (fun j=>j) (fun j=>j≤k) k ?_ rfl (Nat.le_refl _) (fun R2 j hj hR2=> ?_)
 ·have:(bys s k).drop k=[]:=by rw [List.drop_eq_nil_iff,Q3];exact Nat.le_refl _
  rw [this];rfl
 ·refine JD (AH (fun hge=> ?_) fun hlt=> ?_)
  ·obtain ⟨j,rfl⟩: ∃j',j=j'+1:=⟨j-1,by omega⟩
   have hj2:(((j+1:Nat):Int)-1)=(j:Int):=by omega
   have hb:=fL s j
   have hsm:=small (j+1)
   have hR2':=hR2 j (by omega) (by omega)
   refine M4 ⟨by omega,by omega⟩ ?_
   simp only [BD,BE,BH,BG]
   rw [hj2]
   refine iK (by omega) (VJ ⟨by omega,by omega⟩ (J7 (by omega) (by omega) (BX ⟨by omega,by omega⟩ (DM ⟨by omega,by omega⟩ ?_))))
   have e:(MW ((bys s k).drop (j+1)):Int)*128+(by_ s j:Int) % 128=(MW ((bys s k).drop j):Int):=by rw [drop j (by omega)];omega
   rw [e];exact hR2'
  ·have:j=0:=by omega
   subst this
   have hv:=Y5 s (k:=k) (by omega)
   have e:MW ((bys s k).drop 0)=SG s k:=rfl
   simp only [BD,BE,BH,BG]
   rw [e]
   refine KR ⟨by omega,by omega⟩ (xH (by omega) (KN (AH (fun he=> ?_) fun he=> ?_)))
   ·have:=(XH (by omega) (by omega)).1 he
    rw [←hrv,rvF,if_pos ⟨by omega,this⟩] at h
    exact h
   ·refine AX (by omega) (hR (k+1) ⟨by omega,by omega,f,by omega, ?_⟩ (by omega))
    rw [←hrv,rvF,if_neg fun hh=>he ((XH (by omega) (by omega)).2 hh.2)]
attribute [irreducible] rv rvF W4 SG bys dr
end Go.Proofs.YtnhicpkhkaihoaaGreat.P
