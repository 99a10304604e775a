/- A part of the proof. -/
import Derived.Test.YthapfcoajahegaaDoorReGrB
import Derived.Test.YthapfcoajahegaaDoorReColA
import Derived.Test.YthapfcoajahegaaDoorReRecD
namespace Go.Proofs.YthapfcoajahegaaDoor.P
open Go Go.Proofs.YthapfcoajahegaaDoor Go.Proofs.YthapfcoajahegaaDoor.Eng
set_option linter.unusedVariables false
set_option maxHeartbeats 4000000
set_option linter.unusedVariables false
set_option linter.unusedSimpArgs false
attribute [local irreducible] prP gP gE gF AY ixW ldc ldg ldl stc stg scW mkW apW A6 cl2 BL C5 BX
variable {w0:World}
end Go.Proofs.YthapfcoajahegaaDoor.P
namespace Go.Proofs.YthapfcoajahegaaDoor.P
open Go Go.Proofs.YthapfcoajahegaaDoor Go.Proofs.YthapfcoajahegaaDoor.Eng
set_option linter.unusedVariables false
set_option maxHeartbeats 4000000
set_option linter.unusedVariables false
set_option linter.unusedSimpArgs false
attribute [local irreducible] prP gP gE gF AY ixW ldc ldg ldl stc stg scW mkW apW A6 cl2 BL C5 BX
variable {w0:World}
structure NOk (a:List Nd):Prop where
 len:a.length=8
 nd: ∀i,i<8→(nd a i).field.length=3∧(∀f∈(Eng.nd a i).field,F64 f)∧(0≤(Eng.nd a i).gen∧(Eng.nd a i).gen≤1000)∧(0≤(Eng.nd a i).holds∧(Eng.nd a i).holds≤20)∧(0≤(Eng.nd a i).roots∧(Eng.nd a i).roots≤20)
theorem NOk.set {a:List Nd} (h:NOk a) {k:Nat} {v:Nd} (hk:k<8) (h1:v.field.length=3) (h2: ∀f∈v.field,F64 f) (h3:0≤v.gen∧v.gen≤1000) (h4:0≤v.holds∧v.holds≤20) (h5:0≤v.roots∧v.roots≤20):NOk (a.set k v):=by
 have hl:=h.len
 refine ⟨by simp [hl],fun i hi=> ?_⟩
 rw [sE (by omega)]
 split
 ·exact ⟨h1,h2,h3,h4,h5⟩
 ·exact h.nd i hi
def Y9 (g:Int):Nd:=⟨false,g,0,0,0,NL⟩
theorem n9: ∀f∈NL,F64 f:=by simp [NL,F64]
theorem NOk.free {a:List Nd} (h:NOk a) {k:Nat} (hk:k<8):NOk (a.set k (Y9 (Eng.nd a k).gen)):=h.set hk rfl n9 (h.nd k hk).2.2.1 ⟨by simp [Y9],by simp [Y9]⟩ ⟨by simp [Y9],by simp [Y9]⟩
end Go.Proofs.YthapfcoajahegaaDoor.P
namespace Go.Proofs.YthapfcoajahegaaDoor.P
open Go Go.Proofs.YthapfcoajahegaaDoor Go.Proofs.YthapfcoajahegaaDoor.Eng
set_option linter.unusedVariables false
set_option maxHeartbeats 4000000
set_option linter.unusedVariables false
set_option linter.unusedSimpArgs false
attribute [local irreducible] prP gP gE gF AY ixW ldc ldg ldl stc stg scW mkW apW A6 cl2 BL C5 BX
variable {w0:World}
def swL (a:List Nd) (n:Nat):List Int:=pick (fun i=>if (nd a i).live=true∧ ¬inQ (grQ a) (i:Int) then [CV i (nd a i).gen] else []) n
attribute [local irreducible] swL uE grQ
end Go.Proofs.YthapfcoajahegaaDoor.P
namespace Go.Proofs.YthapfcoajahegaaDoor.P
open Go Go.Proofs.YthapfcoajahegaaDoor Go.Proofs.YthapfcoajahegaaDoor.Eng
set_option linter.unusedVariables false
set_option maxHeartbeats 4000000
set_option linter.unusedVariables false
set_option linter.unusedSimpArgs false
attribute [local irreducible] prP gP gE gF AY ixW ldc ldg ldl stc stg scW mkW apW A6 cl2 BL C5 BX
variable {w0:World}
end Go.Proofs.YthapfcoajahegaaDoor.P
namespace Go.Proofs.YthapfcoajahegaaDoor.P
open Go Go.Proofs.YthapfcoajahegaaDoor Go.Proofs.YthapfcoajahegaaDoor.Eng
set_option linter.unusedVariables false
theorem RX.exts {a b:List AD} (h:RX a b) (ha:a.length=8) (hb:b.length=8):exts a=exts b:=by
 unfold P.exts
 rw [ha,hb]
 refine VS fun i hi=> ?_
 obtain ⟨h1,h2,h3,h4,_⟩:=h i hi
 unfold nA
 rw [h1,h2,h3,h4]
theorem gA.res {G:List AD→Prop} {os:List AD} {ns:Nat} {buf:List Int} {r:List AD×List Int×An} (m:gA G os ns buf r) (ho:os.length=8):(r.2.2.code≠0∧r.1=os∧r.2.2.freed=[])∨(r.2.2.code=0∧ ∃os1,os1.length=8∧G os1∧J3 os1 r.1 r.2.2.freed∧LP os1 r.1∧ ∀i,i<8→(ob r.1 i).live=true→ZK r.1 i):=by
 rcases m with ⟨c,hc,rfl⟩ | ⟨os1,h1,_,_,hG,rfl⟩ | ⟨os1,x,h1,_,_,hG,rfl⟩
 ·exact .inl ⟨by simp only;omega,rfl,rfl⟩
 ·exact .inr ⟨rfl,os1,h1.ol,hG,J3.refl h1.ol,LP.refl _,fun i hi hv=>h1.held hi hv⟩
 ·exact .inr ⟨rfl,os1,h1.ol,hG,X0 h1,nW h1,fun i hi hv=>(HP.H8 h1).held hi hv⟩
theorem iC {os:List AD} {buf:List Int} {kd id:Int} {k:Nat} (hk:AA os id=(k:Int)) (hkd:kd=2∨kd=3∨kd=5∨kd=6) (h1:0≤(ob os k).holds∧(ob os k).holds≤20) (h2:0≤(ob os k).roots∧(ob os k).roots≤20):(EU os buf kd id).2.2.code=if hdM kd (ob os k).holds>20∨rtM kd (ob os k).roots>20 then 4 else if hdM kd (ob os k).holds<0∨rtM kd (ob os k).roots<0 then 5 else 0:=by
 unfold EU
 rw [if_neg (by omega),hk,Int.toNat_natCast]
 rcases hkd with rfl | rfl | rfl | rfl
 ·simp only [hdM,rtM,if_true]
  by_cases h:(ob os k).holds=20
  ·rw [if_pos h,if_pos (by simp;omega)]
  ·rw [if_neg h,if_neg (by simp;omega),if_neg (by simp;omega)]
 ·simp only [hdM,rtM,show ¬(3:Int)=2 by decide,show ¬(3:Int)=5 by decide,if_true,if_false,or_true]
  by_cases h:(ob os k).holds=0
  ·rw [if_pos h,if_neg (by omega),if_pos (by omega)]
  ·rw [if_neg h,if_neg (by omega),if_neg (by omega)];rfl
 ·simp only [hdM,rtM,show ¬(5:Int)=2 by decide,show ¬(5:Int)=3 by decide,if_true,if_false]
  by_cases h:(ob os k).roots=20
  ·rw [if_pos h,if_pos (by omega)]
  ·rw [if_neg h,if_neg (by omega),if_neg (by omega)]
 ·simp only [hdM,rtM,show ¬(6:Int)=2 by decide,show ¬(6:Int)=3 by decide,show ¬(6:Int)=5 by decide,if_false,or_false]
  by_cases h:(ob os k).roots=0
  ·rw [if_pos h,if_neg (by omega),if_pos (by omega)]
  ·rw [if_neg h,if_neg (by omega),if_neg (by omega)];rfl
theorem uA (v:Int):hdM 3 v=v-1:=by unfold hdM;rw [if_neg (by decide),if_pos rfl]
theorem uT (v:Int):rtM 3 v=v:=by unfold rtM;rw [if_neg (by decide),if_pos (by decide)]
set_option maxHeartbeats 4000000
set_option linter.unusedVariables false
set_option linter.unusedSimpArgs false
attribute [local irreducible] prP gP gE gF AY ixW ldc ldg ldl stc stg scW mkW apW A6 cl2 BL C5 BX
variable {w0:World}
structure vV (a a':List Nd) (fr out:List Int):Prop where
 nok:NOk a'
 R:J3 (osN a) (osN a') fr
 D:LP (osN a) (osN a')
 E: ∀i,i<8→(ob (osN a') i).live=true→ZK (osN a') i
 pm:out.Perm fr
 so:out.Pairwise (· ≤ ·)
structure vY (h:Hp) (o:Op5) (a':List Nd) (code:Int) (out:List Int):Prop where
 code:code=(BO h o).2.code
 nok:NOk a'
 same: ∀i,i<8→(nd a' i).live=(ob (BO h o).1.AG i).live∧(nd a' i).gen=(ob (BO h o).1.AG i).gen
 pm:out.Perm (BO h o).2.freed
 so:out.Pairwise (· ≤ ·)
end Go.Proofs.YthapfcoajahegaaDoor.P
namespace Go.Proofs.YthapfcoajahegaaDoor.P
open Go Go.Proofs.YthapfcoajahegaaDoor Go.Proofs.YthapfcoajahegaaDoor.Eng
set_option linter.unusedVariables false
theorem iE {os:List AD} (h: ∀i,i<8→(ob os i).live=true→ZK os i) {k:Nat}: ¬TC os k:=by
 intro hd
 induction hd with
 | mk k8 kv k0 hj ih=>
   rcases h _ k8 kv with h1 | ⟨j,j8,jv,jm⟩
   ·omega
   ·exact ih j j8 jv jm
theorem iT (os:List AD) (v:Int):AA os v<0∨ ∃k:Nat,AA os v=(k:Int):=by
 by_cases h:AA os v<0
 ·exact .inl h
 ·exact .inr ⟨(AA os v).toNat,by omega⟩
structure FS (h r:Int) (a:Nat) (ss:List ByteArray) (x:Hp):Prop where
 ok:DX x
 on0:(ob x.AG 0).live=true∧(ob x.AG 0).gen=1∧(ob x.AG 0).holds=h∧(ob x.AG 0).roots=r
 on: ∀i,i<a→(ob x.AG i).live=true
 off: ∀i,a≤i→i<8→(ob x.AG i).live=false∧(ob x.AG i).gen=0
 wk:x.CY=hp0.CY
 st:x.sites=ss
 a1:1≤a∧a≤8
variable {h r:Int} {a:Nat} {ss:List ByteArray} {x:Hp}
theorem FS.slot (f:FS h r a ss x):AA x.AG 8=((0:Nat):Int):=by
 have hol:=f.ok.ol
 rw [I1 (by omega) hol (by rw [hol];decide) (by rw [show ((8:Int) % 8).toNat=0 from rfl];exact f.on0.1) (by rw [show ((8:Int) % 8).toNat=0 from rfl,f.on0.2.1];rfl)]
 rfl
def Ref (x:Hp) (o:Op5) (c:Int):Prop:=(BO x o).2.code=c∧(BO x o).1=x
theorem FS.root (f:FS h r a ss x) (hr:r≠20) {s:ByteArray}:(BO x ⟨5,8,0,0,s⟩).2.code=0∧FS h (r+1) a ss (BO x ⟨5,8,0,0,s⟩).1:=by
 have hk':=f.ok.step (o:=⟨5,8,0,0,s⟩)
 have es:BO x ⟨5,8,0,0,s⟩=(⟨(EU x.AG x.buffer 5 8).1,x.CY,(EU x.AG x.buffer 5 8).2.1,x.sites⟩,(EU x.AG x.buffer 5 8).2.2):=by
  unfold BO;rw [if_neg (show ¬(5:Int)=1 by decide),if_pos (show (5:Int)=2∨(5:Int)=3∨(5:Int)=5∨(5:Int)=6 by decide)]
 have eh:EU x.AG x.buffer 5 8=(GN (x.AG.set 0 {ob x.AG 0 with roots:=(ob x.AG 0).roots+1}) 8,x.buffer,⟨0,0,[]⟩):=by
  unfold EU
  rw [f.slot,if_neg (by decide),if_neg (by decide),if_pos rfl,Int.toNat_natCast,if_neg (by rw [f.on0.2.2.2];exact hr)]
 rw [es,eh] at hk' ⊢
 have hol:=f.ok.ol
 refine ⟨rfl,hk', ?_,fun i hi=> ?_,fun i hi h8=> ?_,f.wk,f.st,f.a1⟩
 ·obtain ⟨q1,q2,q3,q4,q5,q6,q7⟩:=PM (os:=x.AG.set 0 {ob x.AG 0 with roots:=(ob x.AG 0).roots+1}) (id:=8) (i:=0)
  obtain ⟨p1,p2,p3,p4⟩:=f.on0
  simp only
  rw [q1,q2,q4,q5,D9 (by omega),if_pos rfl]
  exact ⟨p1,p2,p3,by simp only;omega⟩
 ·obtain ⟨q1,q2,q3,q4,q5,q6,q7⟩:=PM (os:=x.AG.set 0 {ob x.AG 0 with roots:=(ob x.AG 0).roots+1}) (id:=8) (i:=i)
  simp only
  rw [q1,D9 (by omega)]
  split
  ·exact f.on0.1
  ·exact f.on i hi
 ·obtain ⟨q1,q2,q3,q4,q5,q6,q7⟩:=PM (os:=x.AG.set 0 {ob x.AG 0 with roots:=(ob x.AG 0).roots+1}) (id:=8) (i:=i)
  have:=f.a1
  simp only
  rw [q1,q2,D9 (by omega),if_neg (by omega)]
  exact f.off i hi h8
theorem FS.count (f:FS h 20 a ss x) {s:ByteArray}:Ref x ⟨5,8,0,0,s⟩ 4:=by
 have eh:EU x.AG x.buffer 5 8=(x.AG,x.buffer,⟨4,0,[]⟩):=by
  unfold EU
  rw [f.slot,if_neg (by decide),if_neg (by decide),if_pos rfl,Int.toNat_natCast,if_pos f.on0.2.2.2]
 unfold Ref BO
 rw [if_neg (show ¬(5:Int)=1 by decide),if_pos (show (5:Int)=2∨(5:Int)=3∨(5:Int)=5∨(5:Int)=6 by decide),eh]
 exact ⟨rfl,rfl⟩
theorem FS.range (f:FS h r a ss x) {s:ByteArray}:Ref x ⟨4,8,3, -1,s⟩ 2:=by
 have e:IT x.AG x.buffer 8 3 (-1)=(x.AG,x.buffer,⟨2,0,[]⟩):=by
  unfold IT
  rw [f.slot,if_neg (by omega),if_pos (by omega)]
 unfold Ref BO
 rw [if_neg (show ¬(4:Int)=1 by decide),if_neg (show ¬((4:Int)=2∨(4:Int)=3∨(4:Int)=5∨(4:Int)=6) by decide),if_pos rfl,e]
 exact ⟨rfl,rfl⟩
theorem FS.dead (f:FS h r 1 ss x) {b y:Int} {s:ByteArray} (hy:0≤y∧y≤255):Ref x ⟨4,8,b,9+y,s⟩ 1:=by
 have hd:AA x.AG (9+y)<0:=by
  rcases iT x.AG (9+y) with hh | ⟨k,hk⟩
  ·exact hh
  ·exfalso
   obtain ⟨k8,kv,ev⟩:=pE f.ok hk
   have:k=0:=Classical.byContradiction fun hk0=>by
    have:=(f.off k (by omega) k8).1
    rw [kv] at this;cases this
   subst this
   rw [f.on0.2.1,II (by decide) (by decide) (by decide)] at ev
   omega
 have e:IT x.AG x.buffer 8 b (9+y)=(x.AG,x.buffer,⟨1,0,[]⟩):=by
  unfold IT
  rw [if_pos (.inr ⟨by omega,hd⟩)]
 unfold Ref BO
 rw [if_neg (show ¬(4:Int)=1 by decide),if_neg (show ¬((4:Int)=2∨(4:Int)=3∨(4:Int)=5∨(4:Int)=6) by decide),if_pos rfl]
 simp only
 rw [e]
 exact ⟨rfl,rfl⟩
theorem FS.release (f:FS h r 1 ss x) (hh:h≠0) (hr:0<r) {s:ByteArray}:(BO x ⟨3,8,0,0,s⟩).2.code=0∧FS (h-1) r 1 ss (BO x ⟨3,8,0,0,s⟩).1:=by
 have hk':=f.ok.step (o:=⟨3,8,0,0,s⟩)
 have hol:=f.ok.ol
 have es:BO x ⟨3,8,0,0,s⟩=(⟨(EU x.AG x.buffer 3 8).1,x.CY,(EU x.AG x.buffer 3 8).2.1,x.sites⟩,(EU x.AG x.buffer 3 8).2.2):=by
  unfold BO;rw [if_neg (show ¬(3:Int)=1 by decide),if_pos (show (3:Int)=2∨(3:Int)=3∨(3:Int)=5∨(3:Int)=6 by decide)]
 rw [es] at hk' ⊢
 obtain ⟨p1,p2,p3,p4⟩:=f.on0
 have h0:=f.ok.hr 0
 have hc:(EU x.AG x.buffer 3 8).2.2.code=0:=by
  rw [iC f.slot (by omega) (by omega) (by omega),uA,uT,if_neg (by omega),if_neg (by omega)]
 rcases (f.ok.hp.XD (id:=8) (kd:=3)).res hol with ⟨hn,_⟩ | ⟨_,os1,o1l,hG,R,D,E⟩
 ·exact absurd hc hn
 have g0:=hG 0
 rw [f.slot,if_pos rfl,if_pos rfl,uA,uT] at g0
 obtain ⟨g1,g2,g3,g4,g5⟩:=g0
 have off1: ∀i,1≤i→i<8→(ob os1 i).live=false∧(ob os1 i).gen=0:=fun i hi h8=>by
  obtain ⟨a1,a2,_⟩:=hG i
  rw [a1,a2];exact f.off i hi h8
 have nd: ∀i, ¬TC os1 i:=fun i=>iE fun j j8 jv=>by
  left
  have:j=0:=Classical.byContradiction fun hj=>by
   have:=(off1 j (by omega) j8).1
   rw [jv] at this;cases this
  subst this
  rw [g4,g5,p4];omega
 have l1:(ob (EU x.AG x.buffer 3 8).1 0).live=true:=(lH R D E (by decide)).2 ⟨by rw [g1];exact p1,nd 0⟩
 obtain ⟨_,_,m3,m4,_⟩:=R.sm 0 (by decide) l1
 refine ⟨hc,hk',⟨l1,by rw [R.gn 0 (by decide),g2];exact p2,by rw [m3,g4,p3],by rw [m4,g5];exact p4⟩,fun i hi=> ?_,fun i hi h8=> ?_,f.wk,f.st,f.a1⟩
 ·have:i=0:=by omega
  subst this;exact l1
 ·obtain ⟨q1,q2⟩:=off1 i hi h8
  simp only
  rw [R.d0 i h8 q1];exact ⟨q1,q2⟩
theorem FS.none (f:FS 0 r a ss x) {s:ByteArray}:Ref x ⟨3,8,0,0,s⟩ 5:=by
 have eh:EU x.AG x.buffer 3 8=(x.AG,x.buffer,⟨5,0,[]⟩):=by
  unfold EU
  rw [f.slot,if_neg (by decide),if_neg (by decide),if_neg (by decide),if_pos rfl,Int.toNat_natCast,if_pos f.on0.2.2.1]
 unfold Ref BO
 rw [if_neg (show ¬(3:Int)=1 by decide),if_pos (show (3:Int)=2∨(3:Int)=3∨(3:Int)=5∨(3:Int)=6 by decide),eh]
 exact ⟨rfl,rfl⟩
theorem FS.load (f:FS h r a ss x) {k:Int} (hk:0≤k∧k≤7) {s:ByteArray}:Ref x ⟨8,k,0,0,s⟩ 2:=by
 have hu:(Go.Proofs.YthapfcoajahegaaDoor.Eng.wk hp0.CY k.toNat).used=false:=by
  have:k.toNat<8:=by omega
  have hc:k.toNat=0∨k.toNat=1∨k.toNat=2∨k.toNat=3∨k.toNat=4∨k.toNat=5∨k.toNat=6∨k.toNat=7:=by omega
  rcases hc with e | e | e | e | e | e | e | e <;> rw [e] <;> rfl
 have e:JA x.AG x.CY 8 k=(x.CY,⟨2,0,[]⟩):=by
  unfold JA
  rw [f.wk]
  split
  ·rfl
  ·first
   | rfl
   | rw [if_pos hu]
 unfold Ref BO
 rw [if_neg (show ¬(8:Int)=1 by decide),if_neg (show ¬((8:Int)=2∨(8:Int)=3∨(8:Int)=5∨(8:Int)=6) by decide),if_neg (show ¬(8:Int)=4 by decide),if_neg (show ¬(8:Int)=7 by decide),if_pos (show (8:Int)=8∨(8:Int)=9 by decide)]
 simp only
 rw [e]
 exact ⟨rfl,rfl⟩
theorem FS.kind {k:Int} (hk:11≤k) {a b c:Int} {s:ByteArray}:Ref x ⟨k,a,b,c,s⟩ 2:=by
 unfold Ref BO
 simp only
 rw [if_neg (by omega),if_neg (by omega),if_neg (by omega),if_neg (by omega),if_neg (by omega),if_neg (by omega)]
 exact ⟨rfl,rfl⟩
theorem FS.empty {a b c:Int}:Ref x ⟨1,a,b,c,⟨#[]⟩⟩ 2:=by
 have e:GY x.AG x.sites ⟨#[]⟩=(x.AG,x.sites,⟨2,0,[]⟩):=by unfold GY;rw [if_pos (by decide)]
 unfold Ref BO
 simp only [if_true]
 rw [e]
 exact ⟨rfl,rfl⟩
theorem FS.alloc (f:FS h r a ss x) (ha:a<8) {s:ByteArray} (h1:1≤(s.size:Int)∧(s.size:Int)≤8) (hs:ss.length<6):(BO x ⟨1,0,0,0,s⟩).2.code=0∧FS h r (a+1) (if at_ ss s<0 then ss++[s] else ss) (BO x ⟨1,0,0,0,s⟩).1:=by
 have hk':=f.ok.step (o:=⟨1,0,0,0,s⟩)
 have hol:=f.ok.ol
 have hf:BZ x.AG=(a:Int):=by
  unfold BZ
  rw [hol]
  refine M7 ha ?_ fun k hk'=> ?_
  ·obtain ⟨h1,h2⟩:=f.off a (Nat.le_refl _) ha
   unfold JV;rw [h1,h2];decide
  ·unfold JV;rw [f.on k hk'];rfl
 have es:BO x ⟨1,0,0,0,s⟩=(⟨x.AG.set a (JG (w64 ((ob x.AG a).gen+1)) (if at_ ss s<0 then ss.length else at_ ss s)),x.CY,x.buffer,if at_ ss s<0 then ss++[s] else ss⟩,⟨0,CV a (w64 ((ob x.AG a).gen+1)),[]⟩):=by
  unfold BO
  simp only [if_true]
  have e:GY x.AG x.sites s=(x.AG.set a (JG (w64 ((ob x.AG a).gen+1)) (if at_ ss s<0 then ss.length else at_ ss s)),(if at_ ss s<0 then ss++[s] else ss),⟨0,CV a (w64 ((ob x.AG a).gen+1)),[]⟩):=by
   unfold GY
   rw [if_neg (fun hh=>hh h1),hf,f.st,if_neg (by omega),if_neg (by omega),Int.toNat_natCast]
  rw [e]
 rw [es] at hk' ⊢
 have a1:=f.a1
 refine ⟨rfl,hk', ?_,fun i hi=> ?_,fun i hi h8=> ?_,f.wk,rfl,by omega⟩
 ·simp only;rw [D9 (by omega),if_neg (by omega)];exact f.on0
 ·simp only;rw [D9 (by omega)]
  split
  ·rfl
  ·exact f.on i (by omega)
 ·simp only;rw [D9 (by omega),if_neg (by omega)];exact f.off i (by omega) h8
theorem FS.full (f:FS h r 8 ss x) {s:ByteArray} (h1:1≤(s.size:Int)∧(s.size:Int)≤8):Ref x ⟨1,0,0,0,s⟩ 3:=by
 have hf:BZ x.AG= -1:=by
  unfold BZ
  rw [f.ok.ol]
  exact SB fun k hk=>by unfold JV;rw [f.on k hk];rfl
 have e:GY x.AG x.sites s=(x.AG,x.sites,⟨3,0,[]⟩):=by
  unfold GY
  rw [if_neg (fun hh=>hh h1),hf,if_pos (by decide)]
 unfold Ref BO
 simp only [if_true]
 rw [e]
 exact ⟨rfl,rfl⟩
end Go.Proofs.YthapfcoajahegaaDoor.P
namespace Go.Proofs.YthapfcoajahegaaDoor.P
open Go Go.Proofs.YthapfcoajahegaaDoor Go.Proofs.YthapfcoajahegaaDoor.Eng
set_option linter.unusedVariables false
def oR:Op5:=⟨5,8,0,0,⟨#[]⟩⟩
def oB:Op5:=⟨1,0,0,0,⟨#[98]⟩⟩
def oX (b y k z:Int):List Op5:=[oR,⟨4,8,3, -1,⟨#[]⟩⟩,⟨4,8,b,9+y,⟨#[]⟩⟩,⟨3,8,0,0,⟨#[]⟩⟩,⟨3,8,0,0,⟨#[]⟩⟩,⟨8,k,0,0,⟨#[]⟩⟩,⟨11+z,0,0,0,⟨#[]⟩⟩,⟨1,0,0,0,⟨#[]⟩⟩]
def CH (b y k z:Int):List Op5:=([⟨1,0,0,0,⟨#[97]⟩⟩]++List.replicate 20 oR++oX b y k z)++List.replicate 8 oB
def GU:List Int:=[4,2,1,0,5,2,2,2]++List.replicate 7 0++[3]
theorem kE (b y k z:Int):(CH b y k z).length=37:=rfl
theorem MP {l:List Op5} {i:Nat} {o:Op5} (h:l[i]? =some o):po l i=o:=by unfold po;rw [List.getD_eq_getElem?_getD,h];rfl
theorem lR:FS 1 0 1 [⟨#[97]⟩] (BO hp0 ⟨1,0,0,0,⟨#[97]⟩⟩).1:=by
 have hk':=jZ.step (o:=⟨1,0,0,0,⟨#[97]⟩⟩)
 have eo: ∀i,i<8→ob hp0.AG i=BS 0:=fun i hi=>by
  unfold hp0 ob;simp only;rw [List.getD_eq_getElem?_getD,List.getElem?_replicate,if_pos hi];rfl
 have hl:hp0.AG.length=8:=by simp [hp0]
 have hf:BZ hp0.AG=((0:Nat):Int):=by
  unfold BZ
  rw [hl]
  exact M7 (by decide) (by unfold JV;rw [eo 0 (by decide)];decide) fun k hk=>by omega
 have es:BO hp0 ⟨1,0,0,0,⟨#[97]⟩⟩=(⟨hp0.AG.set 0 (JG 1 0),hp0.CY,[],[⟨#[97]⟩]⟩,⟨0,CV 0 1,[]⟩):=by
  unfold BO
  simp only [if_true]
  have e:GY hp0.AG hp0.sites ⟨#[97]⟩=(hp0.AG.set 0 (JG 1 0),[⟨#[97]⟩],⟨0,CV 0 1,[]⟩):=by
   have at0:at_ hp0.sites ⟨#[97]⟩= -1:=by unfold at_ hp0;simp
   unfold GY
   rw [if_neg (by decide),hf,if_neg (by decide),at0,if_neg (by simp [hp0]),Int.toNat_natCast,eo 0 (by decide)]
   simp only [BS]
   rw [JU ⟨by decide,by decide⟩]
   simp [hp0]
  rw [e];rfl
 rw [es] at hk' ⊢
 have oba: ∀i,ob (hp0.AG.set 0 (JG 1 0)) i=if i=0 then JG 1 0 else ob hp0.AG i:=fun i=>D9 (by rw [hl];decide)
 refine ⟨hk', ?_,fun i hi=> ?_,fun i hi h8=> ?_,rfl,rfl,by omega⟩
 ·simp only;rw [oba,if_pos rfl];exact ⟨rfl,rfl,rfl,rfl⟩
 ·simp only;rw [oba,if_pos (by omega)];rfl
 ·simp only;rw [oba,if_neg (by omega),eo i h8];exact ⟨rfl,rfl⟩
section
variable {b y k z:Int}
theorem a8: ∀j:Nat,j≤20→FS 1 (j:Int) 1 [⟨#[97]⟩] (CG (CH b y k z) (1+j)).1
 | 0,_=>by
   show FS 1 0 1 _ (BO (CG (CH b y k z) 0).1 (po (CH b y k z) 0)).1
   rw [MP (show (CH b y k z)[0]? =some ⟨1,0,0,0,⟨#[97]⟩⟩ from rfl)]
   exact lR
 | j+1,h=>by
   have ih:=a8 j (by omega)
   show FS 1 ((j+1:Nat):Int) 1 _ (BO (CG (CH b y k z) (1+j)).1 (po (CH b y k z) (1+j))).1
   have e:(CH b y k z)[1+j]? =some oR:=by
    unfold CH
    rw [List.getElem?_append_left (by simp [oX];omega),List.getElem?_append_left (by simp;omega),List.getElem?_append_right (by simp),List.length_singleton,show 1+j-1=j by omega,List.getElem?_replicate,if_pos (by omega)]
   rw [MP e]
   have:=(ih.root (by omega) (s:=⟨#[]⟩)).2
   rw [show ((j+1:Nat):Int)=(j:Int)+1 by omega]
   exact this
theorem iY (l:List Op5) (j:Nat):(CG l (j+1)).1=(BO (CG l j).1 (po l j)).1:=rfl
theorem rfc:gI GU 0=4∧gI GU 1=2∧gI GU 2=1∧gI GU 3=0∧gI GU 4=5∧gI GU 5=2∧gI GU 6=2∧gI GU 7=2∧(∀j,j<7→gI GU (8+j)=0)∧gI GU 15=3:=by decide
attribute [local irreducible] CG BO GU gI
theorem kT (hy:0≤y∧y≤255) (hk:0≤k∧k≤7) (hz:0≤z): ∀i,i<16→(an (CG (CH b y k z) 37).2 (21+i)).code=gI GU i:=by
 have get: ∀j,j<37→an (CG (CH b y k z) 37).2 j=(BO (CG (CH b y k z) j).1 (po (CH b y k z) j)).2:=fun j hj=>XH _ 37 j hj
 have nx: ∀j,(CG (CH b y k z) (j+1)).1=(BO (CG (CH b y k z) j).1 (po (CH b y k z) j)).1:=fun j=>iY _ j
 obtain ⟨q0,q1,q2,q3,q4,q5,q6,q7,q8,q15⟩:=rfc
 have f21:=a8 (b:=b) (y:=y) (k:=k) (z:=z) 20 (Nat.le_refl _)
 rw [show 1+20=21 from rfl] at f21
 have p21:po (CH b y k z) 21=oR:=MP rfl
 have r21:=f21.count (s:=⟨#[]⟩)
 have e22:(CG (CH b y k z) 22).1=(CG (CH b y k z) 21).1:=by rw [nx,p21];exact r21.2
 have p22:po (CH b y k z) 22=⟨4,8,3, -1,⟨#[]⟩⟩:=MP rfl
 have r22:=f21.range (s:=⟨#[]⟩)
 have e23:(CG (CH b y k z) 23).1=(CG (CH b y k z) 21).1:=by rw [nx,p22,e22];exact r22.2
 have p23:po (CH b y k z) 23=⟨4,8,b,9+y,⟨#[]⟩⟩:=MP rfl
 have r23:=f21.dead (b:=b) (s:=⟨#[]⟩) hy
 have e24:(CG (CH b y k z) 24).1=(CG (CH b y k z) 21).1:=by rw [nx,p23,e23];exact r23.2
 have p24:po (CH b y k z) 24=⟨3,8,0,0,⟨#[]⟩⟩:=MP rfl
 obtain ⟨c24,f25⟩:=f21.release (by decide) (by decide) (s:=⟨#[]⟩)
 have e25:(CG (CH b y k z) 25).1=(BO (CG (CH b y k z) 21).1 ⟨3,8,0,0,⟨#[]⟩⟩).1:=by rw [nx,p24,e24]
 rw [←e25] at f25
 have f25:FS 0 20 1 [⟨#[97]⟩] (CG (CH b y k z) 25).1:=f25
 have p25:po (CH b y k z) 25=⟨3,8,0,0,⟨#[]⟩⟩:=MP rfl
 have r25:=f25.none (s:=⟨#[]⟩)
 have e26:(CG (CH b y k z) 26).1=(CG (CH b y k z) 25).1:=by rw [nx,p25];exact r25.2
 have p26:po (CH b y k z) 26=⟨8,k,0,0,⟨#[]⟩⟩:=MP rfl
 have r26:=f25.load hk (s:=⟨#[]⟩)
 have e27:(CG (CH b y k z) 27).1=(CG (CH b y k z) 25).1:=by rw [nx,p26,e26];exact r26.2
 have p27:po (CH b y k z) 27=⟨11+z,0,0,0,⟨#[]⟩⟩:=MP rfl
 have r27:=FS.kind (x:=(CG (CH b y k z) 25).1) (k:=11+z) (by omega) (a:=0) (b:=0) (c:=0) (s:=⟨#[]⟩)
 have e28:(CG (CH b y k z) 28).1=(CG (CH b y k z) 25).1:=by rw [nx,p27,e27];exact r27.2
 have p28:po (CH b y k z) 28=⟨1,0,0,0,⟨#[]⟩⟩:=MP rfl
 have r28:=FS.empty (x:=(CG (CH b y k z) 25).1) (a:=0) (b:=0) (c:=0)
 have e29:(CG (CH b y k z) 29).1=(CG (CH b y k z) 25).1:=by rw [nx,p28,e28];exact r28.2
 have pB: ∀j,j<8→po (CH b y k z) (29+j)=oB:=fun j hj=>MP (by
  unfold CH
  rw [List.getElem?_append_right (by simp [oX])]
  have:29+j-([(⟨1,0,0,0,⟨#[97]⟩⟩:Op5)]++List.replicate 20 oR++oX b y k z).length=j:=by simp [oX]
  rw [this,List.getElem?_replicate,if_pos hj])
 have bs: ∀j,j≤7→ ∃ss:List ByteArray,ss.length≤2∧(ss.length=2→ ¬at_ ss ⟨#[98]⟩<0)∧FS 0 20 (1+j) ss (CG (CH b y k z) (29+j)).1:=fun j=>by
  induction j with
  | zero=>intro _;exact ⟨[⟨#[97]⟩],by simp,by simp,by rw [Nat.add_zero,e29];exact f25⟩
  | succ j ih=>
    intro hj
    obtain ⟨ss,s1,s2,f⟩:=ih (by omega)
    have g:=(f.alloc (by omega) (s:=⟨#[98]⟩) (by decide) (by omega)).2
    have e:(CG (CH b y k z) (29+(j+1))).1=(BO (CG (CH b y k z) (29+j)).1 ⟨1,0,0,0,⟨#[98]⟩⟩).1:=by
     rw [←Nat.add_assoc,nx,pB j (by omega)];rfl
    rw [←e] at g
    refine ⟨_, ?_, ?_,by rw [show 1+(j+1)=1+j+1 by omega];exact g⟩
    ·split
     ·rename_i hh
      have:ss.length≠2:=fun h2=>s2 h2 hh
      simp;omega
     ·exact s1
    ·intro _
     split
     ·rw [nY (at_mem.1 (by assumption)),if_pos rfl];omega
     ·assumption
 obtain ⟨s36,_,_,f36⟩:=bs 7 (Nat.le_refl _)
 have r36:=f36.full (s:=⟨#[98]⟩) (by decide)
 intro i hi
 rw [get _ (by omega)]
 have hc:i<8∨(8≤i∧i<15)∨i=15:=by omega
 rcases hc with hc | ⟨h8,h15⟩ | rfl
 ·have hc:i=0∨i=1∨i=2∨i=3∨i=4∨i=5∨i=6∨i=7:=by omega
  rcases hc with rfl | rfl | rfl | rfl | rfl | rfl | rfl | rfl
  ·rw [show 21+0=21 from rfl,p21,q0];exact r21.1
  ·rw [show 21+1=22 from rfl,p22,e22,q1];exact r22.1
  ·rw [show 21+2=23 from rfl,p23,e23,q2];exact r23.1
  ·rw [show 21+3=24 from rfl,p24,e24,q3];exact c24
  ·rw [show 21+4=25 from rfl,p25,q4];exact r25.1
  ·rw [show 21+5=26 from rfl,p26,e26,q5];exact r26.1
  ·rw [show 21+6=27 from rfl,p27,e27,q6];exact r27.1
  ·rw [show 21+7=28 from rfl,p28,e28,q7];exact r28.1
 ·obtain ⟨j,rfl⟩: ∃j,i=8+j:=⟨i-8,by omega⟩
  obtain ⟨ss,s1,_,f⟩:=bs j (by omega)
  have g:=(f.alloc (by omega) (s:=⟨#[98]⟩) (by decide) (by omega)).1
  rw [show 21+(8+j)=29+j by omega,pB j (by omega)]
  have hz:=q8 j (by omega)
  rw [hz];exact g
 ·rw [show 21+15=29+7 from rfl,pB 7 (by decide),q15];exact r36.1
end
end Go.Proofs.YthapfcoajahegaaDoor.P
