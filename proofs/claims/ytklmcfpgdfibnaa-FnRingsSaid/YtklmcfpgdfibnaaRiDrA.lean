/- A part of the proof. -/
import Derived.Test.YtklmcfpgdfibnaaRiHpFa
namespace Go.Proofs.Ytklmcfpgdfibnaa.P
open Go Go.Proofs.Ytklmcfpgdfibnaa Go.Proofs.Ytklmcfpgdfibnaa.Eng
set_option linter.unusedVariables false
theorem hH (s g:Int): -1≤B6 s g∧B6 s g≤7999:=by unfold B6;split <;> omega
structure bT (h:Hp) (r:Hp×An):Prop where
 code:0≤r.2.code∧r.2.code≤6
 val: -1≤r.2.val∧r.2.val≤7999
 ref:r.2.code≠0→r.1=h∧r.2.freed=[]
 fr: ∀x∈r.2.freed,0≤AA h.AB x∧AA r.1.AB x<0
 nd:r.2.freed.Nodup
 len:r.2.freed.length≤8
theorem bT.plain {h h':Hp} {c v:Int} (hc:0≤c∧c≤6) (hv: -1≤v∧v≤7999) (hr:c≠0→h'=h):bT h (h',⟨c,v,[]⟩):=⟨hc,hv,fun hh=>⟨hr hh,rfl⟩,by simp,List.nodup_nil,by simp⟩
theorem LZ.slot {a b:List AE} (h:LZ a b) (x:Int):AA b x=AA a x:=D5 h.1 fun i _=>⟨(h.2 i).1,(h.2 i).2.1⟩
theorem Mid.step {h:Hp} {r:List AE×List Int×An} (m:Mid h.AB h.sites.length h.buffer r):bT h (⟨r.1,h.CB,r.2.1,h.sites⟩,r.2.2):=by
 rcases m with ⟨c,hc,rfl⟩ | ⟨os1,h1,_,_,rfl⟩ | ⟨os1,x,h1,hs,_,rfl⟩
 ·exact bT.plain ⟨by omega,by omega⟩ (by omega) fun _=>rfl
 ·exact bT.plain (by decide) (by omega) fun hh=>absurd rfl hh
 ·have R:=YL h1
  have h8:=UP h1.ol
  have hct:=R.ct
  refine ⟨⟨by simp [NH],by simp [NH]⟩,⟨by simp [NH],by simp [NH]⟩,fun hh=>absurd rfl hh,fun x hx=> ?_,R.nd,by simp only [NH];omega⟩
  obtain ⟨a,b⟩:=(R.fr x).1 hx
  rw [hs.slot] at a
  exact ⟨a,b⟩
end Go.Proofs.Ytklmcfpgdfibnaa.P
namespace Go.Proofs.Ytklmcfpgdfibnaa.P
open Go Go.Proofs.Ytklmcfpgdfibnaa Go.Proofs.Ytklmcfpgdfibnaa.Eng
set_option linter.unusedVariables false
set_option maxHeartbeats 4000000
set_option linter.unusedVariables false
set_option linter.unusedSimpArgs false
attribute [local irreducible] prP gP gE gF AW ixW ldc ldg ldl stc stg scW mkW apW AZ cl2 BJ CH B2
variable {w0:World}
def tY (l:List Int):List T:=l.map fun n=> .c (.int .u8 n)
structure oT (l:List Int):Prop where
 len:(l.length:Int)<2^62
 all: ∀x∈l,0≤x∧x≤255
theorem oP (l:List Int):cnt 1 (tY l)=l.length:=by simp [cnt,tY]
theorem ldY {l:List Int} {i:Nat} {K:Value→Prop} (hi:i<l.length) (h:K (.int .u8 (gI l i))):ldc (tY l) [] (AD (iv i)*1) K:=by
 rw [←DE hi] at h
 exact nD (by rw [BA];simp [tY,hi]) h
theorem oT.at {l:List Int} (h:oT l) {i:Nat} (hi:i<l.length):0≤gI l i∧gI l i≤255:=by rw [←DE hi];exact h.all _ (List.getElem_mem hi)
def EZ (l:List AE) (i:Nat):List Int:=if (i:Int)<8∧(ob l i).live=true then [B6 i (ob l i).gen] else []
def B1 (l:List AE):List Int:=pick (EZ l) l.length
theorem XE (l:List AE) (i:Nat):(EZ l i).length≤1:=by unfold EZ;split <;> simp
theorem bL {α:Type} {f:Nat→List α} {P:α→Prop} (h: ∀i, ∀x∈f i,P x): ∀n, ∀x∈pick f n,P x
 | 0,x,hx=>by simp [pick] at hx
 | n+1,x,hx=>by
   rw [pick] at hx
   rcases List.mem_append.1 hx with hx | hx
   ·exact bL h n x hx
   ·exact h n x hx
theorem KF (l:List AE):(B1 l).length≤l.length:=JV (XE l) _
structure OpD (o:Op5):Prop where
 k:0≤o.kind∧o.kind≤11
 a: -1≤o.a∧o.a≤7999
 b: -1≤o.b∧o.b≤3
 c: -1≤o.c∧o.c≤7999
 s:o.site.size≤12
theorem OpD.f {o:Op5} (h:OpD o):OpF o:=⟨by have:=h.k;exact ⟨by omega,by omega⟩,by have:=h.a;exact ⟨by omega,by omega⟩,by have:=h.b;exact ⟨by omega,by omega⟩,by have:=h.c;exact ⟨by omega,by omega⟩,by have:=h.s;omega⟩
end Go.Proofs.Ytklmcfpgdfibnaa.P
