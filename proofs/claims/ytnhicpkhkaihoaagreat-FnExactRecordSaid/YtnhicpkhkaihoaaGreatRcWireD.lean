/- A part of the proof. -/
import Derived.Test.YtnhicpkhkaihoaaGreatRcTxtH
import Derived.Test.YtnhicpkhkaihoaaGreatRcHpA
namespace Go.Proofs.YtnhicpkhkaihoaaGreat.P
open Go Go.Proofs.YtnhicpkhkaihoaaGreat Go.Proofs.YtnhicpkhkaihoaaGreat.Eng
set_option linter.unusedVariables false
theorem rX {F:J2→J2} {xs:List Value} {cs:List (List T)} (h: ∀R:J2,(∀xs cs,F R xs cs→R xs cs)→F R xs cs):BB F xs cs:=fun R hR=>hR _ _ (h R hR)
set_option maxHeartbeats 4000000
set_option linter.unusedVariables false
set_option linter.unusedSimpArgs false
attribute [local irreducible] prP gP gE gF AG ixW ldc ldg ldl stc stg scW mkW apW BB cl2 BY FT DG
variable {w0:World}
theorem cQ {a b:Nat} {K:Value→Prop} (ha:a<2^32) (hb:b<2^32) (h:K (I ((a^^^b:Nat):Int))):prP (bnI .xor (I a) (I b)) K:=by
 have hx:a^^^b<2^32:=Nat.xor_lt_two_pow ha hb
 refine BD (v:= .int .i64 (IntKind.i64.wrap (BitVec.ofInt 64 a^^^BitVec.ofInt 64 b).toNat)) rfl ?_
 have e:(BitVec.ofInt 64 (a:Int)^^^BitVec.ofInt 64 (b:Int)).toNat=a^^^b:=by
  rw [BitVec.toNat_xor,BitVec.ofInt_natCast,BitVec.ofInt_natCast,BitVec.toNat_ofNat,BitVec.toNat_ofNat,Nat.mod_eq_of_lt (by omega),Nat.mod_eq_of_lt (by omega)]
 rw [e,LX ⟨by omega,by omega⟩];exact h
abbrev U (n:Int):Value:= .int .u32 n
theorem bU {a b:Nat} {K:Value→Prop} (ha:a<2^32) (hb:b<2^32) (h:K (U ((a^^^b:Nat):Int))):prP (bnI .xor (U a) (U b)) K:=by
 have hx:a^^^b<2^32:=Nat.xor_lt_two_pow ha hb
 refine BD (v:= .int .u32 (IntKind.u32.wrap (BitVec.ofInt 32 a^^^BitVec.ofInt 32 b).toNat)) rfl ?_
 have e:(BitVec.ofInt 32 (a:Int)^^^BitVec.ofInt 32 (b:Int)).toNat=a^^^b:=by
  rw [BitVec.toNat_xor,BitVec.ofInt_natCast,BitVec.ofInt_natCast,BitVec.toNat_ofNat,BitVec.toNat_ofNat,Nat.mod_eq_of_lt (by omega),Nat.mod_eq_of_lt (by omega)]
 rw [e,IntKind.wrap_u32,Int.emod_eq_of_lt (by omega) (by omega)];exact h
theorem sH {a:Nat} {K:Value→Prop} (ha:a<2^32) (h:K (U ((a % 2:Nat):Int))):prP (bnI .and (U a) (U 1)) K:=by
 refine BD (v:= .int .u32 (IntKind.u32.wrap (BitVec.ofInt 32 a&&& BitVec.ofInt 32 1).toNat)) rfl ?_
 have e:(BitVec.ofInt 32 (a:Int)&&& BitVec.ofInt 32 1).toNat=a % 2:=by
  rw [BitVec.toNat_and,BitVec.ofInt_natCast,BitVec.toNat_ofNat,Nat.mod_eq_of_lt (by omega)]
  exact Nat.and_one_is_mod a
 rw [e,IntKind.wrap_u32,Int.emod_eq_of_lt (by omega) (by omega)];exact h
theorem tV {a:Nat} {K:Value→Prop} (h:K (U ((a/2:Nat):Int))):prP (bnI .shr (U a) (.int .u64 1)) K:=by
 refine BD (v:= .int .u32 ((a:Int).fdiv (2^min (1:Int).toNat 32))) rfl ?_
 have e:(a:Int).fdiv (2^min (1:Int).toNat 32)=((a/2:Nat):Int):=by
  show (a:Int).fdiv 2=_
  rw [Int.fdiv_eq_ediv_of_nonneg _ (by omega)];omega
 rw [e];exact h
theorem vN {a b:Int} {K:Value→Prop} (h:K (.bool (decide (a=b)))):prP (bnI .eql (U a) (U b)) K:=BD rfl h
theorem pL {a:Nat} {K:Value→Prop} (ha:a<2^32) (h:K (U ((4294967295-a:Nat):Int))):prP (un .xor (U a)) K:=by
 refine BD (v:= .int .u32 (IntKind.u32.wrap (BitVec.ofInt 32 4294967295^^^BitVec.ofInt 32 a).toNat)) rfl ?_
 have e:(BitVec.ofInt 32 4294967295^^^BitVec.ofInt 32 (a:Int)).toNat=4294967295-a:=by
  have h1:BitVec.ofInt 32 4294967295=BitVec.allOnes 32:=by decide
  rw [h1,BitVec.xor_comm,BitVec.xor_allOnes,BitVec.toNat_not,BitVec.ofInt_natCast,BitVec.toNat_ofNat,Nat.mod_eq_of_lt (by omega)]
 rw [e,IntKind.wrap_u32,Int.emod_eq_of_lt (by omega) (by omega)];exact h
theorem iW {k:IntKind} {n:Int} {K:Value→Prop} (hf:F64 n) (h:K (I n)):prP (cvI .i64 (.int k n)) K:=
 BD (v:= .int .i64 (IntKind.i64.wrap n)) rfl (by rw [LX hf];exact h)
theorem sY {k:IntKind} {n:Nat} {K:Value→Prop} (hf:n<2^32) (h:K (U n)):prP (cvI .u32 (.int k n)) K:=
 BD (v:= .int .u32 (IntKind.u32.wrap n)) rfl (by rw [IntKind.wrap_u32,Int.emod_eq_of_lt (by omega) (by omega)];exact h)
def by_ (s:ByteArray) (i:Nat):Nat:=(s.data.getD i 0).toNat
theorem nO (s:ByteArray) (i:Nat):by_ s i<256:=UInt8.toNat_lt _
theorem qF {s:ByteArray} {i:Nat} {K:Value→Prop} (hi:i<s.size) (h:K (.int .u8 (by_ s i:Int))):prP (ix (.string s) (iv i)) K:=by
 have h0:(0:Int)≤(i:Int):=by omega
 have hg:s[i]? =some s[i]:=getElem?_pos s i hi
 have hv:s[i].toNat=by_ s i:=by
  have hs:i<s.data.size:=hi
  simp only [by_,Array.getD,hs,dite_true]
  rfl
 have hx:ix (.string s) (iv i)=some (.int .u8 (by_ s i:Int)):=by
  show (if 0≤(i:Int) then (s[(i:Int).toNat]?).map fun b=>Value.int .u8 b.toNat else none)=_
  rw [if_pos h0,Int.toNat_natCast,hg]
  simp only [Option.map_some,hv]
 rw [hx];exact BD rfl h
def pZ (c:Nat):Nat:=if c % 2=1 then (c/2)^^^2197175160 else c/2
def jV:Nat→Nat→Nat
 | 0,c=>c
 | k+1,c=>pZ (jV k c)
def YN (s:ByteArray):Nat→Nat
 | 0=>4294967295
 | i+1=>jV 8 (YN s i^^^by_ s i)
theorem vW {c:Nat} (h:c<2^32):pZ c<2^32:=by
 unfold pZ;split
 ·exact Nat.xor_lt_two_pow (by omega) (by omega)
 ·omega
theorem XR {c:Nat} (h:c<2^32): ∀k,jV k c<2^32
 | 0=>h
 | k+1=>vW (XR h k)
theorem fS (s:ByteArray): ∀i,YN s i<2^32
 | 0=>by show (4294967295:Nat)<2^32;omega
 | i+1=>XR (Nat.xor_lt_two_pow (fS s i) (by have:=nO s i;omega)) 8
def crc (s:ByteArray):Nat:=4294967295-YN s s.size
theorem sW (s:ByteArray):crc s<2^32:=by unfold crc;omega
theorem lY {s:ByteArray} {K:J2} (hs:(s.size:Int)<2^62) (h:K [I (crc s)] []):cl2 ⟨Tryz.prog,w0⟩ 153 K2.sg [.string s] [] K:=by
 refine K2.cl2 ?_
 unfold K2.txt
 refine AY (fun i=>[.string s,U (YN s i),iv i]) (fun _=>[]) s.size (fun _=>True) rfl rfl trivial (fun R i hi _ hR=> ?_)
 have hc:=fS s i
 refine HE (AJ (AW (fun hlt=> ?_) fun hge=> ?_))
 ·have hlt:i<s.size:=by omega
  replace hR:=hR hlt trivial
  have hb:=nO s i
  have hx:YN s i^^^by_ s i<2^32:=Nat.xor_lt_two_pow hc (by omega)
  refine qF hlt (sY (by omega) (bU hc (by omega) ?_))
  refine AY (fun k=>[.string s,U (jV k (YN s i^^^by_ s i)),iv i,iv k]) (fun _=>[]) 8 (fun _=>True) rfl rfl trivial (fun R2 k hk _ hR2=> ?_)
  have hn:=XR hx k
  refine AJ (AW (fun hlt2=> ?_) fun hge2=> ?_)
  ·have hlt2:k<8:=by omega
   replace hR2:=hR2 hlt2 trivial
   rw [jV,pZ] at hR2
   refine BV (sH hn (tV (vN (AW (fun ho=> ?_) fun ho=> ?_))))
   ·rw [if_pos (by omega)] at hR2
    exact bU (b:=2197175160) (by omega) (by omega) (AX (by omega) hR2)
   ·rw [if_neg (by omega)] at hR2
    exact AX (by omega) hR2
  ·have:k=8:=by omega
   subst this
   exact AX (by omega) hR
 ·have:i=s.size:=by omega
  subst this
  exact pL hc (iW ⟨by omega,by omega⟩ h)
theorem kW {s:ByteArray} {K:J2} (hs:(s.size:Int)<2^62) (h:K [I (crc s)] []):cl2 ⟨Tryz.prog,w0⟩ 180 LC.sg [.string s] [] K:=by
 refine LC.cl2 ?_
 unfold LC.txt
 refine AY (fun i=>[.string s,I (YN s i),iv i]) (fun _=>[]) s.size (fun _=>True) rfl rfl trivial (fun R i hi _ hR=> ?_)
 have hc:=fS s i
 refine HE (AJ (AW (fun hlt=> ?_) fun hge=> ?_))
 ·have hlt:i<s.size:=by omega
  replace hR:=hR hlt trivial
  have hb:=nO s i
  have hx:YN s i^^^by_ s i<2^32:=Nat.xor_lt_two_pow hc (by omega)
  refine qF hlt (iW ⟨by omega,by omega⟩ (cQ hc (by omega) ?_))
  refine AY (fun k=>[.string s,I (jV k (YN s i^^^by_ s i)),iv i,iv k]) (fun _=>[]) 8 (fun _=>True) rfl rfl trivial (fun R2 k hk _ hR2=> ?_)
  have hn:=XR hx k
  refine AJ (AW (fun hlt2=> ?_) fun hge2=> ?_)
  ·have hlt2:k<8:=by omega
   replace hR2:=hR2 hlt2 trivial
   rw [jV,pZ] at hR2
   refine BV (LF (by omega) (by omega) (P7 (by omega) ⟨by omega,by omega⟩ (by omega) (BW (AW (fun ho=> ?_) fun ho=> ?_))))
   ·rw [if_pos (by omega)] at hR2
    exact cQ (a:=jV k (YN s i^^^by_ s i)/2) (b:=2197175160) (by omega) (by omega) (AX (by omega) hR2)
   ·rw [if_neg (by omega)] at hR2
    exact AX (by omega) hR2
  ·have:k=8:=by omega
   subst this
   exact AX (by omega) hR
 ·have:i=s.size:=by omega
  subst this
  refine EI ⟨by omega,by omega⟩ ?_
  have e:(4294967295:Int)-(YN s s.size:Int)=(crc s:Int):=by unfold crc;omega
  rw [e];exact h
def fxL (n:Nat):List Nat:=[n/16777216 % 256,n/65536 % 256,n/256 % 256,n % 256]
def FX (n:Nat):ByteArray:=GY (fxL n)
theorem dV (n:Nat):(FX n).size=4:=by rw [FX,Q6];rfl
theorem uY {k:IntKind} {n:Nat} {K:Value→Prop} (h:K (.int .u8 ((n % 256:Nat):Int))):prP (cvI .u8 (.int k n)) K:=
 BD (v:= .int .u8 (IntKind.u8.wrap n)) rfl (by rw [IntKind.wrap_u8];exact h)
theorem T3 {k:IntKind} {n:Int} {m:Nat} {K:Value→Prop} (hn:n % 256=m) (h:K (.int .u8 (m:Int))):prP (cvI .u8 (.int k n)) K:=
 BD (v:= .int .u8 (IntKind.u8.wrap n)) rfl (by rw [IntKind.wrap_u8,hn];exact h)
theorem UG {a m:Nat} {b:Int} {k:Nat} {K:Value→Prop} (hb:b=m) (hm:m≤64) (hk:a/2^m=k) (h:K (I (k:Int))):prP (bnI .shr (I a) (I b)) K:=by
 subst hb
 have e:bnI .shr (I a) (I (m:Int))=some (.int .i64 ((a:Int).fdiv (2^min (m:Int).toNat 64))):=by
  show (if (m:Int)<0 then none else _)=_
  rw [if_neg (by omega)];rfl
 have e2:(a:Int).fdiv (2^min (m:Int).toNat 64)=(k:Int):=by
  rw [Int.toNat_natCast,Nat.min_eq_left hm,Int.fdiv_eq_ediv_of_nonneg _ (by exact Int.le_of_lt (Int.pow_pos (by omega))), ←hk]
  simp
 rw [e,e2];exact BD rfl h
theorem oZ {b:Int} {K:Value→Prop} (hb:b=32) (h:K (I 4294967296)):prP (bnI .shl (I 1) (I b)) K:=by
 subst hb
 exact BD (v:= .int .i64 4294967296) rfl h
theorem oD {F:J2→J2} {xs:List Value} {cs:List (List T)} (h: ∀R:J2,(∀xs cs,F R xs cs→R xs cs)→F R xs cs):BB F xs cs:=rX h
theorem PZ (a b:List Nat):GY (a++b)=GY a++GY b:=by
 have: ∀(b:List Nat) (x y:ByteArray),b.foldl (fun b n=>b.push (UInt8.ofNat n)) (x++y)=x++b.foldl (fun b n=>b.push (UInt8.ofNat n)) y:=by
  intro b
  induction b with
  | nil=>intro x y;rfl
  | cons n b ih=>
    intro x y
    rw [List.foldl_cons,List.foldl_cons, ←ih]
    congr 1
    apply ByteArray.ext
    simp [ByteArray.push]
 rw [GY,List.foldl_append, ←GY,GY]
 have h:=this b (a.foldl (fun b n=>b.push (UInt8.ofNat n)) ByteArray.empty) ByteArray.empty
 rw [ByteArray.append_empty] at h
 exact h
theorem nA {n:Nat} {K:Value→Prop} (h:K (.string (GY [n]))):prP (b2T [T.c (.int .u8 (n:Int))]) K:=by
 have:[T.c (.int .u8 (n:Int))]=tB [n]:=rfl
 rw [this,dM];exact BD rfl h
theorem dS {n:Nat} {K:J2} (hn:n<2^32) (h:K [.string (FX n)] []):cl2 ⟨Tryz.prog,w0⟩ 152 IV.sg [I n,I 4] [] K:=by
 refine IV.cl2 ?_
 unfold IV.txt
 have fin: ∀{K:J2},K [.string (FX n)] []→prP (b2T ((((([]++[T.c (.int .u8 ((n/16777216 % 256:Nat):Int))])++[T.c (.int .u8 ((n/65536 % 256:Nat):Int))])++[T.c (.int .u8 ((n/256 % 256:Nat):Int))])++[T.c (.int .u8 ((n % 256:Nat):Int))]))) fun t=>K [t] []:=fun h=>by
  have:(((([]++[T.c (.int .u8 ((n/16777216 % 256:Nat):Int))])++[T.c (.int .u8 ((n/65536 % 256:Nat):Int))])++[T.c (.int .u8 ((n/256 % 256:Nat):Int))])++[T.c (.int .u8 ((n % 256:Nat):Int))])=tB (fxL n):=rfl
  rw [this,dM];exact BD rfl h
 repeat' (first | refine IH ?_ | refine oZ (by omega) ?_ | refine OI ⟨by omega,by omega⟩ ?_ | refine B2 ?_ | refine QI ?_ | refine EJ (by first | with_reducible assumption | omega) rfl ?_ | refine BZ (by first | with_reducible assumption | omega) ?_ | refine CM ?_ | refine AX (by omega) ?_ | simp only [AK,AQ,AN,AP,AS,AE,AI,AU,AL,AV,AT,AM,AR,AO,BF,BM,BL,BI,BK,BJ,BG,A7,A4,A5,A8,A6,A9])
 refine oD fun R hR=> ?_
 repeat' (first | refine hR _ _ ?_ | refine UG (m:=24) (k:=n/16777216) (by omega) (by omega) (by omega) ?_ | refine UG (m:=16) (k:=n/65536) (by omega) (by omega) (by omega) ?_ | refine UG (m:=8) (k:=n/256) (by omega) (by omega) (by omega) ?_ | refine UG (m:=0) (k:=n) (by omega) (by omega) (by omega) ?_ | refine uY ?_ | refine OI ⟨by omega,by omega⟩ ?_ | exact fin h | refine FC rfl (by simp [cnt,nxc]) ?_ | refine B3 ?_ | refine BO ?_ | refine FB ?_ | refine AX (by omega) ?_ | refine EI ⟨by omega,by omega⟩ ?_)
theorem vF (n:Nat):(GY [n]).size=1:=by rw [Q6];rfl
theorem eH {n:Nat} {K:J2} (hn:n<2^32) (h:K [.string (FX n)] []):cl2 ⟨Tryz.prog,w0⟩ 179 IW.sg [I n,I 4] [] K:=by
 refine IW.cl2 ?_
 unfold IW.txt
 have e:FX n=GY [n/256/256/256 % 256]++(GY [n/256/256 % 256]++(GY [n/256 % 256]++(GY [n % 256]++⟨#[]⟩))):=by
  have e0:(⟨#[]⟩:ByteArray)=GY []:=rfl
  rw [e0, ←PZ, ←PZ, ←PZ, ←PZ]
  simp only [List.cons_append,List.nil_append,FX,fxL]
  congr 2
  ·omega
  ·congr 1;omega
 rw [e] at h
 have z0:(⟨#[]⟩:ByteArray).size=0:=rfl
 have z1:=vF
 repeat' (first | refine DA ?_ | refine B2 ?_ | refine QI ?_ | refine EJ (by first | with_reducible assumption | omega) rfl ?_ | refine BO ?_ | refine AJ ?_ | refine CM ?_)
 refine oD fun R hR=> ?_
 refine AJ (CZ (by omega) (LF (by omega) (by omega) (T3 (m:=n % 256) (by omega) (nA (B8 (by rw [z1,z0];omega) (P7 (by omega) ⟨by omega,by omega⟩ (by omega) (CC ⟨by omega,by omega⟩ ?_)))))))
 refine hR _ _ (AJ (CZ (by omega) (LF (by omega) (by omega) (T3 (m:=n/256 % 256) (by omega) (nA (B8 (by simp only [ByteArray.size_append,z1,z0];omega) (P7 (by omega) ⟨by omega,by omega⟩ (by omega) (CC ⟨by omega,by omega⟩ ?_))))))))
 refine hR _ _ (AJ (CZ (by omega) (LF (by omega) (by omega) (T3 (m:=n/256/256 % 256) (by omega) (nA (B8 (by simp only [ByteArray.size_append,z1,z0];omega) (P7 (by omega) ⟨by omega,by omega⟩ (by omega) (CC ⟨by omega,by omega⟩ ?_))))))))
 refine hR _ _ (AJ (CZ (by omega) (LF (by omega) (by omega) (T3 (m:=n/256/256/256 % 256) (by omega) (nA (B8 (by simp only [ByteArray.size_append,z1,z0];omega) (P7 (by omega) ⟨by omega,by omega⟩ (by omega) (CC ⟨by omega,by omega⟩ ?_))))))))
 exact hR _ _ (AJ (BZ (by omega) (GD (BZ (by omega) h))))
def frm (n:Int) (p:ByteArray):ByteArray:=if (0≤n∧n≤400)∧p.size≤200 then ((V n++V p.size)++p)++FX (crc ((V n++V p.size)++p)) else ⟨#[]⟩
theorem QR (n:Int) (p:ByteArray):(frm n p).size≤218:=by
 unfold frm;split
 ·rename_i h
  have h1:=HI n;have h2:=HI p.size;have h3:=dV (crc ((V n++V p.size)++p))
  simp only [ByteArray.size_append];omega
 ·exact Nat.zero_le _
theorem PF {n:Int} {p:ByteArray} {K:J2} (hp:(p.size:Int)<2^62) (h:K [.string (frm n p)] []):cl2 ⟨Tryz.prog,w0⟩ 95 DW.sg [I n, .string p] [] K:=by
 refine DW.cl2 ?_
 unfold DW.txt
 have h1:=HI n;have h2:=HI p.size
 have h3:=dV (crc ((V n++V p.size)++p))
 repeat' (first | refine IH ?_ | refine KG ⟨by omega,by omega⟩ ?_ | refine lY (by simp only [ByteArray.size_append];omega) ?_ | refine dS (sW _) ?_ | refine B2 ?_ | refine NJ (by first | with_reducible assumption | omega) ?_ | refine JG (by first | with_reducible assumption | omega) ?_ | refine EE (by first | with_reducible assumption | omega) rfl ?_ | refine EJ (by first | with_reducible assumption | omega) rfl ?_ | refine B3 ?_ | refine AJ ?_ | refine CM ?_ | refine HE ?_ | refine B8 (by first | omega | (simp only [ByteArray.size_append];omega)) ?_ | refine AW (fun _=> ?_) (fun _=> ?_) | refine LD (fun _=> ?_) (fun _=> ?_))
 ·rw [frm,if_neg (by omega)] at h;exact h
 ·rw [frm,if_pos (by omega)] at h;exact h
 ·rw [frm,if_neg (by omega)] at h;exact h
theorem PQ {n:Int} {p:ByteArray} {K:J2} (hp:(p.size:Int)<2^62) (h:K [.string (frm n p)] []):cl2 ⟨Tryz.prog,w0⟩ 137 DV.sg [I n, .string p] [] K:=by
 refine DV.cl2 ?_
 unfold DV.txt
 have h1:=HI n;have h2:=HI p.size
 have h3:=dV (crc ((V n++V p.size)++p))
 repeat' (first | refine DA ?_ | refine KF ⟨by omega,by omega⟩ ?_ | refine kW (by simp only [ByteArray.size_append];omega) ?_ | refine eH (sW _) ?_ | refine B2 ?_ | refine NJ (by first | with_reducible assumption | omega) ?_ | refine JG (by first | with_reducible assumption | omega) ?_ | refine EE (by first | with_reducible assumption | omega) rfl ?_ | refine EJ (by first | with_reducible assumption | omega) rfl ?_ | refine B3 ?_ | refine AJ ?_ | refine CM ?_ | refine HE ?_ | refine B8 (by first | omega | (simp only [ByteArray.size_append];omega)) ?_ | refine AW (fun _=> ?_) (fun _=> ?_) | refine LD (fun _=> ?_) (fun _=> ?_))
 ·rw [frm,if_neg (by omega)] at h;exact h
 ·rw [frm,if_pos (by omega)] at h;exact h
 ·rw [frm,if_neg (by omega)] at h;exact h
def sF:ByteArray:=⟨#[72,76,79,71,1]⟩
attribute [irreducible] frm crc FX
def frs (l:List ByteArray):Nat→ByteArray
 | 0=>sF
 | i+1=>frs l i++frm i (gS l i)
theorem YY (l:List ByteArray): ∀i,(frs l i).size≤5+218*i
 | 0=>by show sF.size≤5;decide
 | i+1=>by have h1:=YY l i;have h2:=QR i (gS l i);rw [frs,ByteArray.size_append];omega
def kV (p:ByteArray):Prop:=1≤(p.size:Int)∧(p.size:Int)≤200
instance (p:ByteArray):Decidable (kV p):=inferInstanceAs (Decidable (_∧_))
def T9 (l:List ByteArray):ByteArray:=if l.length≤400∧ ∀p∈l,kV p then frs l l.length++frm l.length ⟨#[]⟩ else ⟨#[]⟩
theorem qE {l:List ByteArray} {i:Nat} (h:i<l.length):gS l i∈l:=by rw [←S7 h];exact List.getElem_mem h
theorem qZ {l:List ByteArray} {P:ByteArray→Prop} (h: ∀i,i<l.length→P (gS l i)): ∀p∈l,P p:=by
 intro p hp
 obtain ⟨i,hi,rfl⟩:=List.getElem_of_mem hp
 rw [S7 hi];exact h i hi
theorem ZY {l:List ByteArray} {K:J2} (hl:(l.length:Int)<2^40) (hs: ∀i,((gS l i).size:Int)<2^62) (h:K [.string (T9 l)] []):cl2 ⟨Tryz.prog,w0⟩ 47 GP.sg [] [tS l] K:=by
 refine GP.cl2 ?_
 unfold GP.txt
 simp only [AK,AQ,AN,AP,AS,AE,AI,AU,AL,AV,AT,AM,AR,AO,BF,BM,BL,BI,BK,BJ,BG,A7,A4,A5,A8,A6,A9]
 refine GD (AW (fun hgt=> ?_) fun hle=> ?_)
 ·rw [T9,if_neg (by omega)] at h;exact h
 ·refine AY (fun i=>[.string (frs l i),iv l.length,iv i]) (fun _=>[]) l.length (fun i=> ∀j,j<i→kV (gS l j)) rfl rfl (fun j hj=>by omega) (fun R i hi hP hR=> ?_)
  have z1:=YY l i
  have z2:=QR i (gS l i)
  refine AJ (AW (fun hlt=> ?_) fun hge=> ?_)
  ·have hlt:i<l.length:=by omega
   repeat' (first | refine IH ?_ | refine PF (hs i) ?_ | refine B8 (by omega) ?_ | refine CM ?_ | refine HE ?_ | refine AX (by omega) ?_ | refine AH (by omega) ?_ | refine ldS (by omega) ?_ | refine AW (fun _=> ?_) (fun _=> ?_) | simp only [AK,AQ,AN,AP,AS,AE,AI,AU,AL,AV,AT,AM,AR,AO,BF,BM,BL,BI,BK,BJ,BG,A7,A4,A5,A8,A6,A9])
   ·rename_i hb
    rw [T9,if_neg (fun hh=>hb (hh.2 _ (qE hlt)))] at h;exact h
   ·rename_i hb
    refine hR hlt fun j hj=> ?_
    rcases Nat.lt_succ_iff_lt_or_eq.1 hj with h1 | rfl
    ·exact hP j h1
    ·exact Decidable.not_not.1 hb
  ·have:i=l.length:=by omega
   subst this
   have z3:=QR l.length ⟨#[]⟩
   rw [T9,if_pos ⟨by omega,qZ hP⟩] at h
   refine PF (by decide) (B8 (by omega) h)
theorem ZG {l:List ByteArray} {K:J2} (hl:(l.length:Int)<2^40) (hs: ∀i,((gS l i).size:Int)<2^62) (h:K [.string (T9 l)] []):cl2 ⟨Tryz.prog,w0⟩ 75 GS.sg [] [tS l] K:=by
 refine GS.cl2 ?_
 unfold GS.txt
 simp only [AK,AQ,AN,AP,AS,AE,AI,AU,AL,AV,AT,AM,AR,AO,BF,BM,BL,BI,BK,BJ,BG,A7,A4,A5,A8,A6,A9]
 refine GD (AW (fun hgt=> ?_) fun hle=> ?_)
 ·rw [T9,if_neg (by omega)] at h;exact h
 ·refine IT.cl2 ?_
  refine AY (fun i=>[.string (frs l i),iv i]) (fun _=>[]) l.length (fun i=> ∀j,j<i→kV (gS l j)) rfl rfl (fun j hj=>by omega) (fun R i hi hP hR=> ?_)
  have z1:=YY l i
  have z2:=QR i (gS l i)
  refine AJ (AW (fun hlt=> ?_) fun hge=> ?_)
  ·have hlt:i<l.length:=by omega
   have no: ¬kV (gS l i)→K [.string ⟨#[]⟩] []:=fun hb=>by
    rw [T9,if_neg (fun hh=>hb (hh.2 _ (qE hlt)))] at h;exact h
   repeat' (first | refine PQ (hs i) ?_ | refine B8 (by omega) ?_ | refine B2 ?_ | refine NJ (by first | with_reducible assumption | omega) ?_ | refine JG (by first | with_reducible assumption | omega) ?_ | refine EE (by first | with_reducible assumption | omega) rfl ?_ | refine EJ (by first | with_reducible assumption | omega) rfl ?_ | refine B3 ?_ | refine AJ ?_ | refine HE ?_ | refine AX (by omega) ?_ | refine Q2 ?_ | refine AH (by omega) ?_ | refine ldS (by omega) ?_ | refine AW (fun _=> ?_) (fun _=> ?_) | refine LD (fun _=> ?_) (fun _=> ?_))
   ·exact no (by unfold kV;omega)
   ·rename_i hb1 hb2
    refine hR hlt fun j hj=> ?_
    rcases Nat.lt_succ_iff_lt_or_eq.1 hj with h1 | rfl
    ·exact hP j h1
    ·refine ⟨?_,by omega⟩
     have:(gS l j).size≠0:=fun hz=>hb1 (by
      have:=ByteArray.ext (x:=gS l j) (y:=⟨#[]⟩) (Array.eq_empty_of_size_eq_zero hz)
      exact this)
     omega
   ·rename_i hb
    exact no (by rw [kV,hb];decide)
  ·have:i=l.length:=by omega
   subst this
   have z3:=QR l.length ⟨#[]⟩
   rw [T9,if_pos ⟨by omega,qZ hP⟩] at h
   refine PQ (by decide) (B8 (by omega) h)
end Go.Proofs.YtnhicpkhkaihoaaGreat.P
namespace Go.Proofs.YtnhicpkhkaihoaaGreat.P
open Go Go.Proofs.YtnhicpkhkaihoaaGreat Go.Proofs.YtnhicpkhkaihoaaGreat.Eng
set_option maxHeartbeats 4000000
set_option linter.unusedVariables false
set_option linter.unusedSimpArgs false
attribute [local irreducible] prP gP gE gF AG ixW ldc ldg ldl stc stg scW mkW apW BB cl2 BY FT DG
variable {w0:World}
def L9 (n:Int) (l:List ByteArray) (o:Op5) (a:An):ByteArray×Int×List ByteArray:=OP n l o.kind o.a o.b o.c o.site a.code a.val a.freed
theorem YD (n:Int) (l:List ByteArray) (o:Op5) (a:An):(L9 n l o a).1.size≤127∧(L9 n l o a).2.2.length≤l.length+1:=by
 unfold L9 OP
 split
 ·rename_i h
  obtain ⟨_,hb,_,_,_,_,hx,hl,_⟩:=UE h
  have h1:=VG n l o.kind o.a o.b o.c o.site a.code a.val a.freed.length
  have h2:=(eO (p:=(base n l o.kind o.a o.b o.c o.site a.code a.val a.freed.length,o.a)) hb hx a.freed.length (Nat.le_refl _)).2
  refine ⟨by simp only at h2 ⊢;omega, ?_⟩
  simp only [bC]
  split
  ·omega
  ·simp
 ·exact ⟨Nat.zero_le _,Nat.le_succ _⟩
def enc (ops:List Op5) (ans:List An):Nat→Option (List ByteArray×Int×List ByteArray)
 | 0=>some ([],0,[])
 | i+1=>match enc ops ans i with
   | none=>none
   | some p=>if (L9 p.2.1 p.2.2 (po ops i) (an ans i)).1=⟨#[]⟩ then none else some (p.1++[(L9 p.2.1 p.2.2 (po ops i) (an ans i)).1],(L9 p.2.1 p.2.2 (po ops i) (an ans i)).2)
theorem YB {ops:List Op5} {ans:List An} {i:Nat} (h:enc ops ans i=none): ∀k,i≤k→enc ops ans k=none
 | 0,hk=>by
   have:i=0:=by omega
   subst this;exact h
 | k+1,hk=>by
   rcases Nat.lt_or_ge k i with h1 | h1
   ·have:i=k+1:=by omega
    subst this;exact h
   ·rw [enc,YB h k h1]
def encode (ops:List Op5) (ans:List An):ByteArray:=if ops.length≠ans.length∨ops.length≥400 then ⟨#[]⟩ else match enc ops ans ops.length with
 | none=>⟨#[]⟩
 | some p=>T9 p.1
structure sV (ops:List Op5) (ans:List An) (q:Nat×List ByteArray×Int×List ByteArray):Prop where
 eq:enc ops ans q.1=some q.2
 le:q.1≤ops.length
 al:q.2.1.length=q.1
 sl:q.2.2.2.length≤q.1
 sz: ∀i,(gS q.2.1 i).size≤127
theorem vB {l:List ByteArray} {s:ByteArray} {b:Nat} (h: ∀i,(gS l i).size≤b) (hs:s.size≤b) (i:Nat):(gS (l++[s]) i).size≤b:=by
 unfold gS at h ⊢
 rcases Nat.lt_trichotomy i l.length with h1 | h1 | h1
 ·have:=h i
  rw [List.getD_eq_getElem?_getD] at this ⊢
  rw [List.getElem?_append_left h1];exact this
 ·subst h1
  rw [List.getD_eq_getElem?_getD,List.getElem?_append_right (Nat.le_refl _)]
  simpa using hs
 ·rw [List.getD_eq_getElem?_getD,List.getElem?_eq_none (by simp;omega)];exact Nat.zero_le _
theorem sV.next {ops:List Op5} {ans:List An} {q:Nat×List ByteArray×Int×List ByteArray} (h:sV ops ans q) (hlt:q.1<ops.length) (hne:(L9 q.2.2.1 q.2.2.2 (po ops q.1) (an ans q.1)).1≠⟨#[]⟩):
  sV ops ans (q.1+1,q.2.1++[(L9 q.2.2.1 q.2.2.2 (po ops q.1) (an ans q.1)).1],(L9 q.2.2.1 q.2.2.2 (po ops q.1) (an ans q.1)).2):=by
 obtain ⟨h1,h2,h3,h4,h5⟩:=h
 have hz:=YD q.2.2.1 q.2.2.2 (po ops q.1) (an ans q.1)
 refine ⟨by rw [enc,h1];exact if_neg hne,hlt,by simp [h3], ?_,vB h5 hz.1⟩
 have:=hz.2
 simp only at this ⊢;omega
theorem bL {ops:List Op5} {ans:List An} {K:J2} (hl:(ops.length:Int)≤2^40) (hm:(ans.length:Int)≤2^40) (hf: ∀i,((an ans i).freed.length:Int)<2^62) (h:K [.string (encode ops ans)] []):cl2 ⟨Tryz.prog,w0⟩ 17 HW.sg [] [tR tP ops,tR tA ans] K:=by
 refine HW.cl2 ?_
 unfold HW.txt
 simp only [AK,AQ,AN,AP,AS,AE,AI,AU,AL,AV,AT,AM,AR,AO,BF,BM,BL,BI,BK,BJ,BG,A7,A4,A5,A8,A6,A9]
 repeat' (first | refine B2 ?_ | refine EE (by first | with_reducible assumption | omega) rfl ?_ | refine EJ (by first | with_reducible assumption | omega) rfl ?_ | refine B3 ?_ | refine FB ?_ | refine B5 ?_ | refine AW (fun _=> ?_) (fun _=> ?_) | refine LD (fun _=> ?_) (fun _=> ?_))
 ·rw [encode,if_pos (by omega)] at h;exact h
 ·rename_i hne hge
  rw [encode,if_neg (by omega)] at h
  refine DX (α:=Nat×List ByteArray×Int×List ByteArray) (fun q=>[iv ops.length,iv q.1,I q.2.2.1]) (fun q=>[tS q.2.1,tS q.2.2.2]) (fun q=>ops.length-q.1) (sV ops ans) (0,[],0,[]) rfl rfl ⟨rfl,Nat.zero_le _,rfl,Nat.le_refl _,fun i=>(Nat.zero_le 127:(gS [] i).size≤127)⟩ (fun R q hq hR=> ?_)
  obtain ⟨h1,h2,h3,h4,h5⟩:=id hq
  simp only [AK,AQ,AN,AP,AS,AE,AI,AU,AL,AV,AT,AM,AR,AO,BF,BM,BL,BI,BK,BJ,BG,A7,A4,A5,A8,A6,A9]
  refine AJ (AW (fun hlt=> ?_) fun hge2=> ?_)
  ·have hlt:q.1<ops.length:=by omega
   refine AH hlt (X7 hlt (AH (by omega) (s9 (by omega) ?_)))
   rw [rW (by omega)]
   refine VC (by omega) (hf _) ?_
   refine Q2 (AW (fun he=> ?_) fun he=> ?_)
   ·have:enc ops ans (q.1+1)=none:=by rw [enc,h1];exact if_pos he
    rw [YB this ops.length hlt] at h;exact h
   ·refine FC rfl (by first | omega | (simp only [AK,AQ,AN,AP,AS,AE,AI,AU,AL,AV,AT,AM,AR,AO,BF,BM,BL,BI,BK,BJ,BG,A7,A4,A5,A8,A6,A9];omega)) (AX (by omega) ?_)
    have:=hR _ (hq.next hlt he) (by simp only;omega)
    rw [←XJ] at this
    exact this
  ·have he:q.1=ops.length:=by omega
   rw [he] at h1
   rw [h1] at h
   exact ZY (by omega) (fun i=>by have:=h5 i;omega) h
 ·rw [encode,if_pos (by omega)] at h;exact h
theorem bD {ops:List Op5} {ans:List An} {K:J2} (hl:(ops.length:Int)≤2^40) (hm:(ans.length:Int)≤2^40) (hf: ∀i,((an ans i).freed.length:Int)<2^62) (h:K [.string (encode ops ans)] []):cl2 ⟨Tryz.prog,w0⟩ 37 H6.sg [] [tR tP ops,tR tA ans] K:=by
 refine H6.cl2 ?_
 unfold H6.txt
 simp only [AK,AQ,AN,AP,AS,AE,AI,AU,AL,AV,AT,AM,AR,AO,BF,BM,BL,BI,BK,BJ,BG,A7,A4,A5,A8,A6,A9]
 repeat' (first | refine B2 ?_ | refine EE (by first | with_reducible assumption | omega) rfl ?_ | refine EJ (by first | with_reducible assumption | omega) rfl ?_ | refine B3 ?_ | refine FB ?_ | refine B5 ?_ | refine AW (fun _=> ?_) (fun _=> ?_) | refine LD (fun _=> ?_) (fun _=> ?_))
 ·rw [encode,if_pos (by omega)] at h;exact h
 ·rename_i hne hge
  rw [encode,if_neg (by omega)] at h
  refine DX (α:=Nat×List ByteArray×Int×List ByteArray) (fun q=>[iv q.1,I q.2.2.1]) (fun q=>[tS q.2.1,tS q.2.2.2]) (fun q=>ops.length-q.1) (sV ops ans) (0,[],0,[]) rfl rfl ⟨rfl,Nat.zero_le _,rfl,Nat.le_refl _,fun i=>(Nat.zero_le 127:(gS [] i).size≤127)⟩ (fun R q hq hR=> ?_)
  obtain ⟨h1,h2,h3,h4,h5⟩:=id hq
  simp only [AK,AQ,AN,AP,AS,AE,AI,AU,AL,AV,AT,AM,AR,AO,BF,BM,BL,BI,BK,BJ,BG,A7,A4,A5,A8,A6,A9]
  refine AJ (AW (fun hlt=> ?_) fun hge2=> ?_)
  ·have hlt:q.1<ops.length:=by omega
   refine AH hlt (X7 hlt (AH (by omega) (s9 (by omega) ?_)))
   rw [rW (by omega)]
   refine VB (by omega) (hf _) ?_
   refine Q2 (AW (fun he=> ?_) fun he=> ?_)
   ·have:enc ops ans (q.1+1)=none:=by rw [enc,h1];exact if_pos he
    rw [YB this ops.length hlt] at h;exact h
   ·refine FC rfl (by first | omega | (simp only [AK,AQ,AN,AP,AS,AE,AI,AU,AL,AV,AT,AM,AR,AO,BF,BM,BL,BI,BK,BJ,BG,A7,A4,A5,A8,A6,A9];omega)) (AX (by omega) ?_)
    have:=hR _ (hq.next hlt he) (by simp only;omega)
    rw [←XJ] at this
    exact this
  ·have he:q.1=ops.length:=by omega
   rw [he] at h1
   rw [h1] at h
   exact ZG (by omega) (fun i=>by have:=h5 i;omega) h
 ·rw [encode,if_pos (by omega)] at h;exact h
attribute [irreducible] L9
end Go.Proofs.YtnhicpkhkaihoaaGreat.P
namespace Go.Proofs.YtnhicpkhkaihoaaGreat.P
open Go Go.Proofs.YtnhicpkhkaihoaaGreat Go.Proofs.YtnhicpkhkaihoaaGreat.Eng
set_option maxHeartbeats 4000000
set_option linter.unusedVariables false
set_option linter.unusedSimpArgs false
attribute [local irreducible] prP gP gE gF AG ixW ldc ldg ldl stc stg scW mkW apW BB cl2 BY FT DG
variable {w0:World}
def dr (s:ByteArray) (a:Nat):ByteArray:=s.extract a s.size
theorem fE (s:ByteArray) (a:Nat):(dr s a).size=s.size-a:=by simp [dr]
def bys (s:ByteArray) (k:Nat):List Nat:=(List.range k).map (by_ s)
def TU:List Nat→Nat
 | []=>0
 | x::r=>x % 128+128*TU r
def SR:Bool→List Nat→Bool
 | _,[]=>false
 | f,[x]=>decide (x<128)&&(f||decide (x≠0))
 | _,x::y::r=>decide (x≥128)&&SR false (y::r)
theorem iZ: ∀{L:List Nat},SR false L=true→1≤TU L
 | [],h=>by simp [SR] at h
 | [x],h=>by simp [SR] at h;simp only [TU];omega
 | x::y::r,h=>by
   simp only [SR,Bool.and_eq_true] at h
   have:=iZ h.2
   simp only [TU] at this ⊢;omega
theorem tG: ∀{L:List Nat} {f:Bool} {k:Nat},(∀x∈L,x<256)→SR f L=true→L.length≤k+1→vd k (TU L)=L
 | [],f,k,_,h,_=>by simp [SR] at h
 | [x],f,k,_,h,_=>by
   simp only [SR,Bool.and_eq_true,decide_eq_true_eq] at h
   have h1:x % 128+128*0=x:=by omega
   simp only [TU,h1]
   cases k with
   | zero=>rfl
   | succ k=>rw [vd,if_neg (by omega)]
 | x::y::r,f,0,_,h,hl=>by simp at hl
 | x::y::r,f,k+1,hb,h,hl=>by
   simp only [SR,Bool.and_eq_true,decide_eq_true_eq] at h
   have h1:=iZ h.2
   have hx:=hb x (by simp)
   have h2:TU (x::y::r)=x % 128+128*TU (y::r):=rfl
   have h3:TU (x::y::r)/128=TU (y::r):=by omega
   have h4:128+TU (x::y::r) % 128=x:=by omega
   rw [vd,if_pos (by omega),h3,h4,tG (L:=y::r) (fun z hz=>hb z (by simp [hz])) h.2 (by simpa using hl)]
theorem zE: ∀k n,vd k n≠[]
 | 0,n=>by simp [vd]
 | k+1,n=>by unfold vd;split <;> simp
theorem q8: ∀{k n:Nat},n<128^(k+1)→SR true (vd k n)=true∧(1≤n→SR false (vd k n)=true)
 | 0,n,h=>by simp at h;simp [vd,SR,h];omega
 | k+1,n,h=>by
   unfold vd
   split
   ·rename_i hge
    have hd:n/128<128^(k+1):=by rw [Nat.pow_succ] at h;omega
    have h2:=(q8 hd).2 (by omega)
    cases hv:vd k (n/128) with
    | nil=>exact absurd hv (zE _ _)
    | cons y r=>
      rw [hv] at h2
      have:SR false (y::r)=true:=h2
      simp [SR,this]
   ·simp [SR];omega
theorem nI: ∀L:List Nat,TU L<128^L.length
 | []=>by simp [TU]
 | x::r=>by have:=nI r;simp only [TU,List.length_cons,Nat.pow_succ];omega
theorem mD (s:ByteArray) (k:Nat):(bys s k).length=k:=by simp [bys]
theorem sN (s:ByteArray) (k:Nat): ∀x∈bys s k,x<256:=by
 intro x hx
 obtain ⟨i,_,rfl⟩:=List.mem_map.1 hx
 exact nO s i
def jH (s:ByteArray) (k:Nat):Nat:=TU (bys s k)
theorem nP (s:ByteArray) {k:Nat} (hk:k≤7):jH s k<2^49:=by
 have h:=nI (bys s k)
 rw [mD] at h
 have:128^k≤128^7:=Nat.pow_le_pow_right (by omega) hk
 have:(128:Nat)^7=2^49:=by decide
 unfold jH;omega
def lB (s:ByteArray) (k:Nat):Bool:=SR true (bys s k)
theorem Q9 (l:List Nat):(GY l).data.toList=l.map UInt8.ofNat:=by
 have: ∀(l:List Nat) (b:ByteArray),(l.foldl (fun b n=>b.push (UInt8.ofNat n)) b).data.toList=b.data.toList++l.map UInt8.ofNat:=by
  intro l
  induction l with
  | nil=>intro b;simp
  | cons a l ih=>intro b;rw [List.foldl_cons,ih];simp
 rw [GY,this];rfl
theorem jD {s:ByteArray} {k:Nat} (hk:k≤s.size):s.extract 0 k=GY (bys s k):=by
 apply ByteArray.ext
 apply Array.ext'
 rw [Q9,ByteArray.data_extract,Array.toList_extract]
 apply List.ext_getElem
 ·simp [bys];have:s.size=s.data.size:=rfl;omega
 ·intro i h1 h2
  have hi:i<k:=by simpa [bys] using h2
  have his:i<s.data.size:=by have:s.size=s.data.size:=rfl;omega
  simp [bys,by_,Array.getD,his]
  intro hcon;have:s.size=s.data.size:=rfl;omega
theorem lG {a b:List Nat} (ha: ∀x∈a,x<256) (hb: ∀x∈b,x<256) (h:GY a=GY b):a=b:=by
 have h1:a.map UInt8.ofNat=b.map UInt8.ofNat:=by rw [←Q9, ←Q9,h]
 have h2:=congrArg (List.map UInt8.toNat) h1
 simp only [List.map_map] at h2
 have: ∀l:List Nat,(∀x∈l,x<256)→l.map (UInt8.toNat ∘ UInt8.ofNat)=l:=by
  intro l hl
  induction l with
  | nil=>rfl
  | cons x l ih=>
    have hx:=hl x (by simp)
    rw [List.map_cons,ih fun y hy=>hl y (by simp [hy])]
    simp [Nat.mod_eq_of_lt hx]
 rwa [this a ha,this b hb] at h2
theorem xD: ∀(k n:Nat),n<128^(k+1)→ ∀x∈vd k n,x<256
 | 0,n,h=>by simp at h;simp [vd];omega
 | k+1,n,h=>by
   unfold vd
   split
   ·intro x hx
    rcases List.mem_cons.1 hx with rfl | hx
    ·omega
    ·exact xD k (n/128) (by rw [Nat.pow_succ] at h;omega) x hx
   ·simp;omega
theorem zQ {n:Nat} (h:n<2^49):V n=GY (vd 6 n):=by
 rw [V,if_pos (by rw [P6];omega),Int.toNat_natCast]
theorem pU {s:ByteArray} {k:Nat} (hk:k≤7) (hs:k≤s.size):V (jH s k)=s.extract 0 k↔lB s k=true:=by
 have hlt:=nP s hk
 have h49:(128:Nat)^(6+1)=2^49:=by decide
 rw [zQ hlt,jD hs]
 constructor
 ·intro h
  have:=lG (xD 6 _ (by rw [h49];exact hlt)) (sN s k) h
  rw [lB, ←this]
  exact (q8 (by rw [h49];exact hlt)).1
 ·intro h
  rw [jH,tG (sN s k) h (by rw [mD];omega)]
def rvF (s:ByteArray):Nat→Nat→Int×Int
 | 0,_=>(0,0)
 | f+1,j=>if j≤s.size∧lB s j=true then ((jH s j:Int),(j:Int)) else rvF s f (j+1)
def rv (s:ByteArray):Int×Int:=rvF s 7 1
theorem y5 (s:ByteArray):rv s=(0,0)∨ ∃j:Nat,1≤j∧j≤7∧j≤s.size∧lB s j=true∧rv s=((jH s j:Int),(j:Int)):=by
 have: ∀f i,1≤i→i+f≤8→rvF s f i=(0,0)∨ ∃j:Nat,1≤j∧j≤7∧j≤s.size∧lB s j=true∧rvF s f i=((jH s j:Int),(j:Int)):=by
  intro f
  induction f with
  | zero=>intro i _ _;exact .inl rfl
  | succ f ih=>
    intro i h1 h2
    by_cases hc:i≤s.size∧lB s i=true
    ·exact .inr ⟨i,h1,by omega,hc.1,hc.2,by rw [rvF,if_pos hc]⟩
    ·rw [rvF,if_neg hc];exact ih (i+1) (by omega) (by omega)
 exact this 7 1 (by omega) (by omega)
attribute [irreducible] rv rvF lB jH bys dr
end Go.Proofs.YtnhicpkhkaihoaaGreat.P
