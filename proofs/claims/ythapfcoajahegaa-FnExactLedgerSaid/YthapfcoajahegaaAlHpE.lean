/- A part of the proof. -/
import Derived.Test.YthapfcoajahegaaAlLawTyNode
import Derived.Test.YthapfcoajahegaaAlRowT
import Derived.Test.YthapfcoajahegaaAlTxtB
namespace Go.Proofs.Ythapfcoajahegaa.P
open Go Go.Proofs.Ythapfcoajahegaa Go.Proofs.Ythapfcoajahegaa.Eng
set_option maxHeartbeats 4000000
set_option linter.unusedVariables false
set_option linter.unusedSimpArgs false
attribute [local irreducible] prP gP gE gF AH ixW ldc ldg ldl stc stg scW mkW apW AP cl2 AX C9 BW
variable {w0:World}
structure Gr where
 nodes:List Nd
 DO:List Wk
 sites:List ByteArray
def sY (o:AE):Nd:=⟨o.live,o.gen,o.site,o.holds,o.roots,o.field⟩
def rH (h:Hp):Gr:=⟨h.BC.map sY,h.DO,h.sites⟩
def pS (g:Gr):Int:=szL bZ g.nodes+szL SR g.DO+g.sites.length
structure SL (g:Gr):Prop where
 nl:(g.nodes.length:Int)≤1048576
 nf: ∀o∈g.nodes,(o.field.length:Int)≤1048576
 wl:(g.DO.length:Int)≤1048576
 sl:(g.sites.length:Int)≤1048576
theorem SL.of {h:Hp} (hf:Fits h):SL (rH h):=by
 refine ⟨?_, ?_,hf.wl,hf.sl⟩
 ·simp only [rH,List.length_map];exact hf.ol
 ·intro o ho
  obtain ⟨x,hx,rfl⟩:=List.mem_map.1 ho
  exact hf.of x hx
theorem SL.nodes {g:Gr} (hf:SL g):0≤szL bZ g.nodes∧szL bZ g.nodes≤2^41:=by
 refine ⟨HU lP _, ?_⟩
 have h1:=OQ (sz:=bZ) (b:=1048581) (l:=g.nodes) fun o ho=>by have:=hf.nf o ho;unfold bZ;omega
 have h2:=hf.nl
 have h3:(g.nodes.length:Int)*1048581≤1048576*1048581:=Int.mul_le_mul_of_nonneg_right h2 (by omega)
 omega
theorem SL.DO {g:Gr} (hf:SL g):0≤szL SR g.DO∧szL SR g.DO≤2^41:=by
 refine ⟨HU bI _, ?_⟩
 have h1:=OQ (sz:=SR) (b:=2) (l:=g.DO) fun o ho=>by unfold SR;omega
 have h2:=hf.wl
 omega
theorem SL.sz {g:Gr} (hf:SL g):0≤pS g∧pS g≤2^43:=by
 have h1:=hf.nodes;have h2:=hf.DO;have h4:=hf.sl
 unfold pS;omega
end Go.Proofs.Ythapfcoajahegaa.P
namespace Go.Proofs.Ythapfcoajahegaa.P
open Go Go.Proofs.Ythapfcoajahegaa Go.Proofs.Ythapfcoajahegaa.Eng
set_option maxHeartbeats 4000000
set_option linter.unusedVariables false
set_option linter.unusedSimpArgs false
attribute [local irreducible] prP gP gE gF AH ixW ldc ldg ldl stc stg scW mkW apW AP cl2 AX C9 BW
variable {w0:World}
def OK (id:Int) (o:AE):Nat:=if o.live=true then o.field.count id else 0
def BU (l:List AE) (id:Int):Nat:=(l.map (OK id)).sum
def inE (l:List AE) (s:Int):Int:=if (0≤s∧s≤l.length-1)∧(ob l s.toNat).live=true then BU l (DA s (ob l s.toNat).gen) else 0
theorem oH (id:Int) (o:AE):OK id o≤o.field.length:=by
 unfold OK;split
 ·exact List.count_le_length
 ·exact Nat.zero_le _
theorem UD {l:List AE} {id:Int} {b:Nat} (h: ∀o∈l,o.field.length≤b):BU l id≤l.length*b:=by
 induction l with
 | nil=>simp [BU]
 | cons o l ih=>
   have h1:=ih fun x hx=>h x (by simp [hx])
   have h2:=oH id o
   have h3:=h o (by simp)
   simp only [BU,List.map_cons,List.sum_cons,List.length_cons,Nat.add_mul,Nat.one_mul] at h1 ⊢
   omega
theorem N0 {l:List Int} {i:Nat} (h:i<l.length):gI l i∈l:=by rw [←I6 h];exact List.getElem_mem h
attribute [irreducible] inE BU
end Go.Proofs.Ythapfcoajahegaa.P
namespace Go.Proofs.Ythapfcoajahegaa.P
open Go Go.Proofs.Ythapfcoajahegaa Go.Proofs.Ythapfcoajahegaa.Eng
set_option linter.unusedVariables false
def inB (n lo hi:Int):Bool:=decide (n≥lo)&&decide (n≤hi)
def N5 (n:Int):Bool:=inB n (-1000000000) 1000000000
def qG (a b c d:Int) (s:ByteArray):Bool:=(((N5 a&&N5 b)&&N5 c)&&N5 d)&&decide ((s.size:Int)≤8)
def rM (c v:Int) (l:List Int):Bool:=(inB c 0 6&&N5 v&&decide (l.length≤8))&&l.all N5
end Go.Proofs.Ythapfcoajahegaa.P
namespace Go.Proofs.Ythapfcoajahegaa.P
open Go Go.Proofs.Ythapfcoajahegaa Go.Proofs.Ythapfcoajahegaa.Eng
set_option linter.unusedVariables false
def MB (l:List Nat):ByteArray:=l.foldl (fun b n=>b.push (UInt8.ofNat n)) ByteArray.empty
theorem aA (l:List Nat):(MB l).size=l.length:=by
 have: ∀(l:List Nat) (b:ByteArray),(l.foldl (fun b n=>b.push (UInt8.ofNat n)) b).size=b.size+l.length:=by
  intro l
  induction l with
  | nil=>intro b;rfl
  | cons a l ih=>intro b;rw [List.foldl_cons,ih,ByteArray.size_push,List.length_cons];omega
 rw [MB,this];simp
def vd:Nat→Nat→List Nat
 | 0,n=>[n]
 | k+1,n=>if n≥128 then (128+n % 128)::vd k (n/128) else [n]
theorem jY: ∀k n,(vd k n).length≤k+1
 | 0,n=>by simp [vd]
 | k+1,n=>by
   unfold vd;split
   ·have:=jY k (n/128);simp only [List.length_cons];omega
   ·simp
def V (n:Int):ByteArray:=if inB n 0 562949953421311 then MB (vd 6 n.toNat) else ⟨#[]⟩
theorem P6 (n:Int):(V n).size≤7:=by
 unfold V;split
 ·rw [aA];exact jY 6 _
 ·exact Nat.zero_le _
attribute [irreducible] V
end Go.Proofs.Ythapfcoajahegaa.P
namespace Go.Proofs.Ythapfcoajahegaa.P
open Go Go.Proofs.Ythapfcoajahegaa Go.Proofs.Ythapfcoajahegaa.Eng
set_option linter.unusedVariables false
def zg (n:Int):Int:=if inB n (-100000000000000) 100000000000000 then (if n<0 then -2*n-1 else 2*n) else -1
theorem eV {n lo hi:Int}:inB n lo hi=true↔lo≤n∧n≤hi:=by simp [inB]
def SI (n:Int):ByteArray:=V (zg n)
def ST (s:ByteArray):ByteArray:=if (s.size:Int)>8 then ⟨#[]⟩ else V s.size++s
theorem nL (s:ByteArray):(ST s).size≤15:=by
 unfold ST;split
 ·exact Nat.zero_le _
 ·have:=P6 s.size
  rw [ByteArray.size_append];omega
instance :LawfulBEq ByteArray where
 eq_of_beq {a b} h:=by
  cases a;cases b
  have h:_==_:=h
  first | exact congrArg _ (eq_of_beq h) | (simp [BEq.beq,instBEqByteArray.beq] at h;simpa using h) | (simp_all)
 rfl {a}:=by
  cases a
  first | exact beq_self_eq_true (α:=Array UInt8) _ | (show ByteArray.beq _ _=true;unfold ByteArray.beq;simp) | (simp [BEq.beq,ByteArray.beq])
def at_ (l:List ByteArray) (s:ByteArray):Int:=if s∈l then (l.idxOf s:Int) else -1
end Go.Proofs.Ythapfcoajahegaa.P
namespace Go.Proofs.Ythapfcoajahegaa.P
open Go Go.Proofs.Ythapfcoajahegaa Go.Proofs.Ythapfcoajahegaa.Eng
set_option linter.unusedVariables false
def szB (s:ByteArray):Bool:=decide ((s.size:Int)≤8)
def qZ (l:List ByteArray):Bool:=l.all szB&&decide l.Nodup
def r8 (n:Int) (l:List ByteArray):Bool:=(N5 n&&decide (l.length≤400))&&qZ l
def lU (l:List ByteArray) (s:ByteArray):ByteArray:=if s∈l then V (at_ l s+1) else V 0++ST s
def rU (l:List ByteArray) (s:ByteArray):List ByteArray:=if s∈l then l else l++[s]
end Go.Proofs.Ythapfcoajahegaa.P
namespace Go.Proofs.Ythapfcoajahegaa.P
open Go Go.Proofs.Ythapfcoajahegaa Go.Proofs.Ythapfcoajahegaa.Eng
set_option maxHeartbeats 4000000
set_option linter.unusedVariables false
set_option linter.unusedSimpArgs false
attribute [local irreducible] prP gP gE gF AH ixW ldc ldg ldl stc stg scW mkW apW AP cl2 AX C9 BW
variable {w0:World}
structure NH (l:List ByteArray):Prop where
 len:l.length≤6
 sz: ∀i,i<l.length→1≤((gS l i).size:Int)∧((gS l i).size:Int)≤8
 one: ∀i,i<l.length→gS l i∉l.take i
structure sP (h:Hp) (i:Nat):Prop where
 gen:0≤(ob h.BC i).gen∧(ob h.BC i).gen≤999
 len:(ob h.BC i).field.length=3
 lead: ∀j,j<3→gI (ob h.BC i).field j≠ -1→(ob h.BC i).live=true∧0≤AA h.BC (gI (ob h.BC i).field j)
 dead:(ob h.BC i).live=false→(ob h.BC i).site=0∧(ob h.BC i).holds=0∧(ob h.BC i).roots=0∧(ob h.BC i).count=0∧(ob h.BC i).purple=false
 lv:(ob h.BC i).live=true→1≤(ob h.BC i).gen∧(0≤(ob h.BC i).site∧(ob h.BC i).site≤(h.sites.length:Int)-1)∧(0≤(ob h.BC i).holds∧(ob h.BC i).holds≤20)∧(0≤(ob h.BC i).roots∧(ob h.BC i).roots≤20)∧
  (ob h.BC i).count=(ob h.BC i).holds+(ob h.BC i).roots+inE h.BC i∧1≤(ob h.BC i).count∧(ob h.BC i).purple=decide (DA i (ob h.BC i).gen∈h.buffer)
structure FV (h:Hp):Prop where
 ol:h.BC.length=8
 wl:h.DO.length=8
 sites:NH h.sites
 obj: ∀i,i<8→sP h i
 weak: ∀i,i<8→((wk h.DO i).used=false→(wk h.DO i).target=0)∧((wk h.DO i).used=true→8≤(wk h.DO i).target∧(wk h.DO i).target≤7999)
 buf: ∀i,i<h.buffer.length→0≤AA h.BC (gI h.buffer i)∧gI h.buffer i∉h.buffer.take i
theorem oQ {l:List Int} {P:Int→Prop} (h0:P 0) (h: ∀x∈l,P x) (i:Nat):P (gI l i):=by
 by_cases hi:i<l.length
 ·rw [←I6 hi];exact h _ (List.getElem_mem hi)
 ·unfold gI;rw [List.getD_eq_getElem?_getD,List.getElem?_eq_none (by omega)];exact h0
theorem TO:F64 0:=⟨by omega,by omega⟩
theorem Z6.ob {h:Hp} (hn:Z6 h) (i:Nat):F64 (ob h.BC i).gen∧F64 (ob h.BC i).site∧F64 (ob h.BC i).holds∧F64 (ob h.BC i).roots∧F64 (ob h.BC i).count∧ ∀f∈(ob h.BC i).field,F64 f:=by
 by_cases hi:i<h.BC.length
 ·rw [←ID hi];exact hn.obj _ (List.getElem_mem hi)
 ·unfold Eng.ob;rw [List.getD_eq_getElem?_getD,List.getElem?_eq_none (by omega)]
  exact ⟨TO,TO,TO,TO,TO,fun f hf=>by simp at hf⟩
theorem Z6.fld {h:Hp} (hn:Z6 h) (i j:Nat):F64 (gI (Eng.ob h.BC i).field j):=oQ TO (hn.ob i).2.2.2.2.2 j
theorem Z6.bf {h:Hp} (hn:Z6 h) (i:Nat):F64 (gI h.buffer i):=oQ TO hn.buf i
end Go.Proofs.Ythapfcoajahegaa.P
