/- A part of the proof. -/
import Derived.Test.YtklmcfpgdfibnaaRiRgtA
import Derived.Test.YtklmcfpgdfibnaaRiKepA
import Derived.Test.YtklmcfpgdfibnaaRiKepB
import Derived.Test.YtklmcfpgdfibnaaRiBfsA
namespace Go.Proofs.Ytklmcfpgdfibnaa.P
open Go Go.Proofs.Ytklmcfpgdfibnaa Go.Proofs.Ytklmcfpgdfibnaa.Eng
set_option linter.unusedVariables false
theorem mI {h:Hp}: ∀i,i<8→(nd (h.AB.map aP) i).live=(ob h.AB i).live∧(nd (h.AB.map aP) i).gen=(ob h.AB i).gen:=fun i _=>by rw [sQ];exact ⟨rfl,rfl⟩
theorem fD.II {h:Hp} {o:Op5} {code:Int} (hk:BG h) (hc:code=(CA h o).2.code) (hs:(CA h o).1.AB=h.AB) (hf:(CA h o).2.freed=[]):fD h o (h.AB.map aP) code []:=⟨hc,vN hk hk.Y5,by rw [hs];exact mI,by rw [hf],List.Pairwise.nil⟩
theorem fD.gone {h:Hp} {o:Op5} {a1 a':List Nd} {fr out:List Int} {os1:List AE} (hc:(CA h o).2.code=0) (sg:KY (osN a1) os1) (G:wN a1 a' fr out) (R:HB os1 (CA h o).1.AB (CA h o).2.freed) (D:IS os1 (CA h o).1.AB) (E: ∀i,i<8→(ob (CA h o).1.AB i).live=true→Q9 (CA h o).1.AB i):fD h o a' 0 out:=by
 obtain ⟨h1,h2⟩:=jK sg G.R R G.D D G.E E
 refine ⟨hc.symm,G.nok,fun i hi=> ?_,G.pm.trans h2,G.so⟩
 have:=h1 i hi
 rw [pM] at this
 exact this
set_option maxHeartbeats 4000000
set_option linter.unusedVariables false
set_option linter.unusedSimpArgs false
attribute [local irreducible] prP gP gE gF AW ixW ldc ldg ldl stc stg scW mkW apW AZ cl2 BJ CH B2
variable {w0:World}
end Go.Proofs.Ytklmcfpgdfibnaa.P
namespace Go.Proofs.Ytklmcfpgdfibnaa.P
open Go Go.Proofs.Ytklmcfpgdfibnaa Go.Proofs.Ytklmcfpgdfibnaa.Eng
set_option linter.unusedVariables false
theorem sE {os:List AE} (h: ∀i,i<8→(ob os i).live=true→Q9 os i) {k:Nat}: ¬SM os k:=by
 intro hd
 induction hd with
 | mk k8 kv k0 hj ih=>
   rcases h _ k8 kv with h1 | ⟨j,j8,jv,jm⟩
   ·omega
   ·exact ih j j8 jv jm
structure RSt (n:Nat) (B:Nat→Nat) (E a s:Nat) (x:Bool) (r:Nat) (os:List AE):Prop where
 on: ∀i,i<a→(ob os i).live=true∧(ob os i).gen=1∧(ob os i).holds=(if i<r then 0 else 1)∧(ob os i).roots=0∧(ob os i).field=(if i=0∧x=true then (if i<s then G4.set (B i) (8+(((i+1) % n:Nat):Int)) else G4).set E (8+(n:Int)) else if i<s then G4.set (B i) (8+(((i+1) % n:Nat):Int)) else G4)
 off: ∀i,a≤i→i<8→(ob os i).live=false∧(ob os i).gen=0
theorem RSt.slot {n:Nat} {B:Nat→Nat} {E a s:Nat} {x:Bool} {r:Nat} {os:List AE} (h:RSt n B E a s x r os) (hl:os.length=8) {i:Nat} (hi:i<a) (h8:i<8):AA os (8+(i:Int))=(i:Int):=by
 obtain ⟨h1,h2,_⟩:=h.on i hi
 have e:((8+(i:Int)) % 8).toNat=i:=by omega
 rw [HF (by omega) hl (by omega) (by rw [e];exact h1) (by rw [e,h2];omega)]
 omega
theorem RSt.alloc {n:Nat} {B:Nat→Nat} {E a:Nat} {h:Hp} {w x y:Int} (hk:BG h) (ha:a<8) (hs:h.sites.length≤1) (hsa: ∀t∈h.sites,t=⟨#[97]⟩) (st:RSt n B E a 0 false 0 h.AB):
  RSt n B E (a+1) 0 false 0 (CA h ⟨1,w,x,y,⟨#[97]⟩⟩).1.AB∧(CA h ⟨1,w,x,y,⟨#[97]⟩⟩).1.sites.length≤1∧ ∀t∈(CA h ⟨1,w,x,y,⟨#[97]⟩⟩).1.sites,t=⟨#[97]⟩:=by
 have hol:=hk.ol
 have hf:CM h.AB=(a:Int):=by
  unfold CM
  rw [hol]
  refine OA ha ?_ fun k hk'=> ?_
  ·obtain ⟨h1,h2⟩:=st.off a (Nat.le_refl _) ha
   unfold I5;rw [h1,h2];decide
  ·unfold I5;rw [(st.on k hk').1];rfl
 have hat: ¬(at_ h.sites ⟨#[97]⟩<0∧6≤h.sites.length):=by omega
 have eg:=(st.off a (Nat.le_refl _) ha).2
 have es:CA h ⟨1,w,x,y,⟨#[97]⟩⟩=(⟨h.AB.set a (IE 1 (if at_ h.sites ⟨#[97]⟩<0 then h.sites.length else at_ h.sites ⟨#[97]⟩)),h.CB,h.buffer,if at_ h.sites ⟨#[97]⟩<0 then h.sites++[⟨#[97]⟩] else h.sites⟩,⟨0,B6 a 1,[]⟩):=by
  unfold CA
  simp only [if_true]
  have e:HE h.AB h.sites ⟨#[97]⟩=(h.AB.set a (IE 1 (if at_ h.sites ⟨#[97]⟩<0 then h.sites.length else at_ h.sites ⟨#[97]⟩)),(if at_ h.sites ⟨#[97]⟩<0 then h.sites++[⟨#[97]⟩] else h.sites),⟨0,B6 a 1,[]⟩):=by
   unfold HE
   rw [if_neg (by decide),hf,if_neg (by omega),if_neg hat,Int.toNat_natCast,eg,G9 ⟨by omega,by omega⟩];rfl
  rw [e]
 rw [es]
 refine ⟨⟨fun i hi=> ?_,fun i hi h8=> ?_⟩, ?_, ?_⟩
 ·simp only
  rw [DP (by omega)]
  by_cases hia:i=a
  ·rw [if_pos hia];simp [IE]
  ·rw [if_neg hia];exact st.on i (by omega)
 ·simp only
  rw [DP (by omega),if_neg (by omega)]
  exact st.off i (by omega) h8
 ·simp only
  split
  ·rename_i hh
   have:h.sites=[]:=by
    cases hsl:h.sites with
    | nil=>rfl
    | cons t l=>
      exfalso
      have:=hsa t (by rw [hsl];simp)
      exact (at_mem.1 hh) (by rw [hsl,this];simp)
   rw [this];simp
  ·exact hs
 ·simp only
  intro t ht
  split at ht
  ·rcases List.mem_append.1 ht with ht | ht
   ·exact hsa t ht
   ·exact List.mem_singleton.1 ht
  ·exact hsa t ht
theorem UQ {h:Hp} (hk:BG h) {k j b:Nat} {s:ByteArray} (hk1:AA h.AB (8+(k:Int))=(k:Int)) (hj:AA h.AB (8+(j:Int))=(j:Int)) (hb:b<3) (hf:gI (ob h.AB k).field b= -1):dG h.AB (CA h ⟨4,8+(k:Int),(b:Int),8+(j:Int),s⟩).1.AB (8+(k:Int)) (b:Int) (8+(j:Int)):=by
 have hol:=hk.ol
 have k8:=(HS hk1).1
 have e:GP h.AB h.buffer (8+(k:Int)) (b:Int) (8+(j:Int))=((EO h.AB (8+(j:Int))).set k {ob (EO h.AB (8+(j:Int))) k with field:=(ob h.AB k).field.set b (8+(j:Int))},h.buffer,⟨0,0,[]⟩):=by
  unfold GP
  rw [hk1,hj,if_neg (by omega),if_neg (by omega),Int.toNat_natCast,Int.toNat_natCast,if_pos hf]
 have es:CA h ⟨4,8+(k:Int),(b:Int),8+(j:Int),s⟩=(⟨(GP h.AB h.buffer (8+(k:Int)) (b:Int) (8+(j:Int))).1,h.CB,(GP h.AB h.buffer (8+(k:Int)) (b:Int) (8+(j:Int))).2.1,h.sites⟩,(GP h.AB h.buffer (8+(k:Int)) (b:Int) (8+(j:Int))).2.2):=by
  unfold CA
  simp only [show ¬(4:Int)=1 by decide,show ¬((4:Int)=2∨(4:Int)=3∨(4:Int)=5∨(4:Int)=6) by decide,if_false,if_true]
 rw [es,e]
 intro i
 have gl:=SJ h.AB (8+(j:Int))
 obtain ⟨q1,q2,q3,q4,q5,q6,q7⟩:=VA (os:=h.AB) (id:=8+(j:Int)) (i:=i)
 simp only
 rw [DP (by omega),hk1,Int.toNat_natCast]
 by_cases hik:i=k
 ·subst hik
  rw [if_pos rfl,if_pos rfl]
  exact ⟨q1,q2,q4,q5,rfl⟩
 ·rw [if_neg hik,if_neg (by omega)]
  exact ⟨q1,q2,q4,q5,q6⟩
theorem bB {b:Nat} (hb:b<3):gI G4 b= -1:=by
 rcases b with _ | _ | _ | b
 ·rfl
 ·rfl
 ·rfl
 ·omega
theorem RSt.store {n:Nat} {B:Nat→Nat} {E s:Nat} {h:Hp} {t:ByteArray} (hk:BG h) (hn:n<8) (hs:s<n) (hB:B s<3) (st:RSt n B E (n+1) s false 0 h.AB):
  RSt n B E (n+1) (s+1) false 0 (CA h ⟨4,8+(s:Int),(B s:Int),8+(((s+1) % n:Nat):Int),t⟩).1.AB:=by
 have hol:=hk.ol
 have hm:(s+1) % n<n:=Nat.mod_lt _ (by omega)
 have f:=UQ (s:=t) hk (st.slot hol (i:=s) (by omega) (by omega)) (st.slot hol (i:=(s+1) % n) (by omega) (by omega)) hB (by
  obtain ⟨_,_,_,_,hf⟩:=st.on s (by omega)
  rw [hf,if_neg (by simp),if_neg (by omega)];exact bB hB)
 refine ⟨fun i hi=> ?_,fun i hi h8=> ?_⟩
 ·obtain ⟨q1,q2,q3,q4,q5⟩:=f i
  obtain ⟨p1,p2,p3,p4,p5⟩:=st.on i hi
  rw [st.slot hol (i:=s) (by omega) (by omega),Int.toNat_natCast] at q5
  refine ⟨by rw [q1];exact p1,by rw [q2];exact p2,by rw [q3];exact p3,by rw [q4];exact p4, ?_⟩
  rw [q5,p5]
  simp only [Bool.false_eq_true,and_false,if_false]
  by_cases his:i=s
  ·subst his
   rw [if_pos rfl,if_neg (by omega),if_pos (by omega)]
  ·rw [if_neg (by omega)]
   by_cases hl:i<s
   ·rw [if_pos hl,if_pos (by omega)]
   ·rw [if_neg hl,if_neg (by omega)]
 ·obtain ⟨q1,q2,_⟩:=f i
  rw [q1,q2];exact st.off i hi h8
theorem RSt.y9 {n:Nat} {B:Nat→Nat} {E:Nat} {h:Hp} {t:ByteArray} (hk:BG h) (hn:1≤n∧n<8) (hE:E<3) (hEB:E≠B 0) (st:RSt n B E (n+1) n false 0 h.AB):
  RSt n B E (n+1) n true 0 (CA h ⟨4,8,(E:Int),8+(n:Int),t⟩).1.AB:=by
 have hol:=hk.ol
 have h0:=st.slot hol (i:=0) (by omega) (by omega)
 have f:=UQ (s:=t) (k:=0) (j:=n) hk h0 (st.slot hol (i:=n) (by omega) (by omega)) hE (by
  obtain ⟨_,_,_,_,hf⟩:=st.on 0 (by omega)
  rw [hf,if_neg (by simp),if_pos (by omega)]
  unfold gI
  rw [List.getD_eq_getElem?_getD,List.getElem?_set_ne (Ne.symm hEB), ←List.getD_eq_getElem?_getD]
  exact bB hE)
 have e0:(8+((0:Nat):Int))=8:=by omega
 rw [e0] at f h0
 refine ⟨fun i hi=> ?_,fun i hi h8=> ?_⟩
 ·obtain ⟨q1,q2,q3,q4,q5⟩:=f i
  obtain ⟨p1,p2,p3,p4,p5⟩:=st.on i hi
  rw [h0,Int.toNat_natCast] at q5
  refine ⟨by rw [q1];exact p1,by rw [q2];exact p2,by rw [q3];exact p3,by rw [q4];exact p4, ?_⟩
  rw [q5,p5]
  simp only [Bool.false_eq_true,and_false,if_false,and_true]
  by_cases hi0:i=0
  ·subst hi0
   rw [if_pos rfl,if_pos rfl]
  ·rw [if_neg (by omega),if_neg hi0]
 ·obtain ⟨q1,q2,_⟩:=f i
  rw [q1,q2];exact st.off i hi h8
theorem RSt.pre {n:Nat} {B:Nat→Nat} {E r:Nat} {os:List AE} (hn:1≤n∧n<8) (hB: ∀i,i<n→B i<3) (hE:E<3) (hEB:E≠B 0) (st:RSt n B E (n+1) n true r os) {i:Nat} (hi:i<n):8+(((i+1) % n:Nat):Int)∈(ob os i).field:=by
 obtain ⟨_,_,_,_,hf⟩:=st.on i (by omega)
 rw [hf,if_pos hi]
 have hm:G4.set (B i) (8+(((i+1) % n:Nat):Int))=G4.set (B i) (8+(((i+1) % n:Nat):Int)):=rfl
 by_cases hc:i=0∧true=true
 ·rw [if_pos hc]
  have h0:=hc.1
  subst h0
  refine List.mem_iff_getElem.2 ⟨B 0,by simp [G4];exact hB 0 (by omega), ?_⟩
  rw [List.getElem_set_ne hEB,List.getElem_set_self]
 ·rw [if_neg hc]
  refine List.mem_iff_getElem.2 ⟨B i,by simp [G4];exact hB i hi, ?_⟩
  rw [List.getElem_set_self]
theorem RSt.yV {n:Nat} {B:Nat→Nat} {E r:Nat} {os:List AE} (hn:1≤n∧n<8) (hE:E<3) (st:RSt n B E (n+1) n true r os):8+(n:Int)∈(ob os 0).field:=by
 obtain ⟨_,_,_,_,hf⟩:=st.on 0 (by omega)
 rw [hf,if_pos ⟨rfl,rfl⟩]
 exact List.mem_iff_getElem.2 ⟨E,by split <;> simp [G4] <;> exact hE,List.getElem_set_self _⟩
theorem nL {i:Nat} (hi:i<8):B6 (i:Int) 1=8+(i:Int):=by rw [GN hi (by decide) (by decide)];omega
theorem RSt.held {n:Nat} {B:Nat→Nat} {E r:Nat} {os:List AE} (hn:1≤n∧n<8) (hB: ∀i,i<n→B i<3) (hE:E<3) (hEB:E≠B 0) (st:RSt n B E (n+1) n true r os) {i:Nat} (h8:i<8) (hv:(ob os i).live=true):Q9 os i:=by
 have hi:i<n+1:=Classical.byContradiction fun hh=>by
  have:=(st.off i (by omega) h8).1
  rw [hv] at this;cases this
 right
 rw [(st.on i hi).2.1,nL h8]
 by_cases hin:i=n
 ·exact ⟨0,by omega,(st.on 0 (by omega)).1,by rw [hin];exact st.yV hn hE⟩
 ·
  by_cases h0:i=0
  ·refine ⟨n-1,by omega,(st.on (n-1) (by omega)).1, ?_⟩
   have:=st.pre hn hB hE hEB (i:=n-1) (by omega)
   rw [show n-1+1=n by omega,Nat.mod_self] at this
   rw [h0];exact this
  ·refine ⟨i-1,by omega,(st.on (i-1) (by omega)).1, ?_⟩
   have:=st.pre hn hB hE hEB (i:=i-1) (by omega)
   rw [show i-1+1=i by omega,Nat.mod_eq_of_lt (by omega)] at this
   exact this
theorem RSt.release {n:Nat} {B:Nat→Nat} {E r:Nat} {h:Hp} {w y:Int} {t:ByteArray} (hk:BG h) (hn:1≤n∧n<8) (hB: ∀i,i<n→B i<3) (hE:E<3) (hEB:E≠B 0) (hr:r<n+1) (st:RSt n B E (n+1) n true r h.AB):
  RSt n B E (n+1) n true (r+1) (CA h ⟨3,8+(r:Int),w,y,t⟩).1.AB:=by
 have hol:=hk.ol
 have sr:=st.slot hol (i:=r) hr (by omega)
 obtain ⟨p1,p2,p3,p4,p5⟩:=st.on r hr
 rw [if_neg (by omega)] at p3
 have hc:(FT h.AB h.buffer 3 (8+(r:Int))).2.2.code=0:=by
  rw [kP sr (by omega) (by omega) (by omega),wI,wL,p3,p4];decide
 have es:(CA h ⟨3,8+(r:Int),w,y,t⟩).1.AB=(FT h.AB h.buffer 3 (8+(r:Int))).1:=by
  unfold CA
  rw [if_neg (show ¬(3:Int)=1 by decide),if_pos (show (3:Int)=2∨(3:Int)=3∨(3:Int)=5∨(3:Int)=6 by decide)]
 rw [es]
 rcases (hk.hp.XG (id:=8+(r:Int)) (kd:=3)).res hol with ⟨hh,_⟩ | ⟨_,os1,o1l,hG,R,D,E'⟩
 ·exact absurd hc hh
 ·have s1:RSt n B E (n+1) n true (r+1) os1:=by
   refine ⟨fun i hi=> ?_,fun i hi h8=> ?_⟩
   ·obtain ⟨g1,g2,g3,g4,g5⟩:=hG i
    obtain ⟨q1,q2,q3,q4,q5⟩:=st.on i hi
    rw [sr] at g4 g5
    refine ⟨by rw [g1];exact q1,by rw [g2];exact q2, ?_, ?_,by rw [g3];exact q5⟩
    ·rw [g4]
     by_cases hir:i=r
     ·subst hir
      rw [if_pos rfl,wI,p3,if_pos (by omega)];rfl
     ·rw [if_neg (by omega),q3]
      by_cases hl:i<r
      ·rw [if_pos hl,if_pos (by omega)]
      ·rw [if_neg hl,if_neg (by omega)]
    ·rw [g5,wL,q4];split <;> rfl
   ·obtain ⟨g1,g2,_⟩:=hG i
    rw [g1,g2];exact st.off i hi h8
  have nd: ∀i, ¬SM os1 i:=fun i=>sE (fun j j8 jv=>s1.held hn hB hE hEB j8 jv)
  refine ⟨fun i hi=> ?_,fun i hi h8=> ?_⟩
  ·have i8:i<8:=by omega
   have hv:(ob (FT h.AB h.buffer 3 (8+(r:Int))).1 i).live=true:=(UY R D E' i8).2 ⟨(s1.on i hi).1,nd i⟩
   obtain ⟨_,_,m3,m4,m5⟩:=R.sm i i8 hv
   obtain ⟨q1,q2,q3,q4,q5⟩:=s1.on i hi
   exact ⟨hv,by rw [R.gn i i8];exact q2,by rw [m3];exact q3,by rw [m4];exact q4,by rw [m5];exact q5⟩
  ·obtain ⟨q1,q2⟩:=s1.off i hi h8
   rw [R.d0 i h8 q1]
   exact ⟨q1,q2⟩
end Go.Proofs.Ytklmcfpgdfibnaa.P
namespace Go.Proofs.Ytklmcfpgdfibnaa.P
open Go Go.Proofs.Ytklmcfpgdfibnaa Go.Proofs.Ytklmcfpgdfibnaa.Eng
set_option linter.unusedVariables false
structure JA (n:Nat) (x:Hp):Prop where
 ok:BG x
 gd:Gd x.AB x.buffer
 n1:1≤n∧n≤5
 ex: ∃(B:Nat→Nat) (E:Nat),(∀i,i<n→B i<3)∧E<3∧E≠B 0∧RSt n B E (n+1) n true (n+1) x.AB
variable {n:Nat} {x:Hp}
theorem JA.on (h:JA n x) {i:Nat} (hi:i<n+1):(ob x.AB i).live=true∧(ob x.AB i).gen=1∧(ob x.AB i).holds=0∧(ob x.AB i).roots=0:=by
 obtain ⟨B,E,_,_,_,st⟩:=h.ex
 obtain ⟨a,b,c,d,_⟩:=st.on i hi
 exact ⟨a,b,by rw [c,if_pos hi],d⟩
theorem JA.off (h:JA n x) {i:Nat} (hi:n+1≤i) (h8:i<8):(ob x.AB i).live=false:=by
 obtain ⟨B,E,_,_,_,st⟩:=h.ex
 exact (st.off i hi h8).1
theorem JA.slot (h:JA n x) {i:Nat} (hi:i<n+1):AA x.AB (8+(i:Int))=(i:Int):=by
 obtain ⟨B,E,_,_,_,st⟩:=h.ex
 have:=h.n1
 exact st.slot h.ok.ol hi (by omega)
theorem JA.step (h:JA n x) {i:Nat} (hi:i<n):(((i+1) % n:Nat):Int)∈BC x.AB i:=by
 obtain ⟨B,E,hB,hE,hEB,st⟩:=h.ex
 have hn:=h.n1
 have hm:(i+1) % n<n:=Nat.mod_lt _ (by omega)
 exact EI.2 ⟨by omega,_,st.pre (by omega) hB hE hEB hi,h.slot (by omega)⟩
theorem JA.last (h:JA n x):BC x.AB n=[]:=by
 obtain ⟨B,E,hB,hE,hEB,st⟩:=h.ex
 have hn:=h.n1
 obtain ⟨_,_,_,_,hf⟩:=st.on n (by omega)
 rw [if_neg (by omega),if_neg (by omega)] at hf
 refine List.eq_nil_iff_forall_not_mem.2 fun v hv=> ?_
 obtain ⟨h0,f,hm,e⟩:=EI.1 hv
 rw [hf] at hm
 have:f= -1:=by simpa [G4] using hm
 rw [this,YS] at e
 omega
theorem JA.reach (h:JA n x) {i:Nat} (hi:i<n): ∀t,Reach x.AB i ((i+t) % n)
 | 0=>by rw [Nat.add_zero,Nat.mod_eq_of_lt hi];exact .refl
 | t+1=>by
   have hn:=h.n1
   have ih:=h.reach hi t
   have hm:(i+t) % n<n:=Nat.mod_lt _ (by omega)
   have:=Reach.step ih (h.step hm)
   rw [Int.toNat_natCast,Nat.mod_add_mod] at this
   exact this
theorem JA.ring (h:JA n x) {i j:Nat} (hi:i<n) (hj:j<n):ldB x.AB (8+(i:Int)) (8+(j:Int))=true:=by
 have hn:=h.n1
 have hm:(i+1) % n<n:=Nat.mod_lt _ (by omega)
 refine (SB h.ok (h.slot (by omega)) (h.slot (by omega))).2 (QE.2 ⟨(i+1) % n,h.step hi, ?_⟩)
 have:=h.reach hm (j+n-(i+1) % n)
 rw [show (i+1) % n+(j+n-(i+1) % n)=j+n by omega,Nat.add_mod_right,Nat.mod_eq_of_lt hj] at this
 exact this
theorem JA.no (h:JA n x) {j:Nat} (hj:j<n+1):ldB x.AB (8+(n:Int)) (8+(j:Int))=false:=by
 cases hh:ldB x.AB (8+(n:Int)) (8+(j:Int)) with
 | false=>rfl
 | true=>
   have:=(SB h.ok (h.slot (by omega)) (h.slot hj)).1 hh
   obtain ⟨k,hk,_⟩:=QE.1 this
   rw [h.last] at hk
   simp at hk
theorem JA.EZ (h:JA n x) {i:Nat} (hi:i<8):EZ x.AB i=if i<n+1 then [8+(i:Int)] else []:=by
 unfold P.EZ
 by_cases hl:i<n+1
 ·obtain ⟨a,b,_⟩:=h.on hl
  rw [if_pos ⟨by omega,a⟩,if_pos hl,b,nL hi]
 ·rw [if_neg hl,if_neg]
  rintro ⟨_,hv⟩
  rw [h.off (by omega) hi] at hv
  cases hv
theorem JA.B1 (h:JA n x):B1 x.AB=(List.range (n+1)).map fun i:Nat=>8+(i:Int):=by
 have hn:=h.n1
 have e:P.B1 x.AB=pick (P.EZ x.AB) 8:=by unfold P.B1;rw [h.ok.ol]
 have key: ∀m,m≤8→pick (P.EZ x.AB) m=(List.range (min m (n+1))).map fun i:Nat=>8+(i:Int):=fun m=>by
  induction m with
  | zero=>intro _;simp [pick]
  | succ m ih=>
    intro hm
    rw [pick,ih (by omega),h.EZ (by omega)]
    by_cases hl:m<n+1
    ·rw [if_pos hl,show min m (n+1)=m by omega,show min (m+1) (n+1)=m+1 by omega,List.range_succ,List.map_append];rfl
    ·rw [if_neg hl,List.append_nil,show min m (n+1)=n+1 by omega,show min (m+1) (n+1)=n+1 by omega]
 rw [e,key 8 (Nat.le_refl _),show min 8 (n+1)=n+1 by omega]
theorem JA.noR (h:JA n x) (k:Nat): ¬Rch x.AB k:=by
 rintro ⟨e,he,_⟩
 have h1:=he.pos
 have h2:=he.lv
 have h8:=he.lt
 by_cases hl:e<n+1
 ·have:=h.on hl;omega
 ·rw [h.off (by omega) h8] at h2;cases h2
theorem JA.G5 (h:JA n x):G5 x.AB=P.B1 x.AB:=by
 unfold P.G5
 refine List.filter_eq_self.2 fun v hv=>decide_eq_true fun hm=> ?_
 obtain ⟨k,_,_,_,hr⟩:=(kI h.ok).1 hm
 exact h.noR k ((gJ h.ok).1 hr)
theorem JA.SZ (h:JA n x):SZ x.AB=[(List.range n).map fun i:Nat=>8+(i:Int)]:=by
 have hn:=h.n1
 have hr:=fun i j hi hj=>h.ring (i:=i) (j:=j) hi hj
 have ho:=fun j hj=>h.no (j:=j) hj
 have e8: ∀i,i<n→(8:Int)+((i:Nat):Int)∈P.G5 x.AB:=fun i hi=>by
  rw [h.G5,h.B1]
  exact List.mem_map.2 ⟨i,List.mem_range.2 (by omega),rfl⟩
 have m1: ∀j,j<n→muB x.AB 8 (8+(j:Int))=true:=fun j hj=>by
  have a:=hr 0 j (by omega) hj
  have b:=hr j 0 hj (by omega)
  unfold muB
  simp only [Int.natCast_zero,Int.add_zero] at a b
  rw [a,b];rfl
 have m2:muB x.AB 8 (8+(n:Int))=false:=by
  have b:=ho 0 (by omega)
  unfold muB
  simp only [Int.natCast_zero,Int.add_zero] at b
  rw [b,Bool.and_false]
 have r1:ldB x.AB 8 8=true:=by
  have a:=hr 0 0 (by omega) (by omega)
  simpa using a
 have r2:=ho n (by omega)
 have h8:=e8 0 (by omega)
 simp only [Int.natCast_zero,Int.add_zero] at h8
 unfold P.SZ b9 VQ
 rw [h.B1]
 generalize P.G5 x.AB=lk at h8 ⊢
 have hmu: ∀{mu:Int→Int→Bool} {ids:List Int},(IG mu ids ids.length).1=(IG mu ids ids.length).1:=rfl
 have hring: ∀g,isRing x.AB g=(decide (g.length>1)||ldB x.AB (gI g 0) (gI g 0)):=fun g=>rfl
 generalize muB x.AB=mu at m1 m2 ⊢
 have hcases:n=1∨n=2∨n=3∨n=4∨n=5:=by omega
 rcases hcases with rfl | rfl | rfl | rfl | rfl
 ·simp at m2 r2
  simp [List.range_succ,IG,JZ,gI,m2,r1,r2,h8,hring]
 ·have a1:=m1 1 (by omega)
  simp at a1 m2 r2
  simp [List.range_succ,IG,JZ,gI,a1,m2,r1,r2,h8,hring]
 ·have a1:=m1 1 (by omega)
  have a2:=m1 2 (by omega)
  simp at a1 a2 m2 r2
  simp [List.range_succ,IG,JZ,gI,a1,a2,m2,r1,r2,h8,hring]
 ·have a1:=m1 1 (by omega)
  have a2:=m1 2 (by omega)
  have a3:=m1 3 (by omega)
  simp at a1 a2 a3 m2 r2
  simp [List.range_succ,IG,JZ,gI,a1,a2,a3,m2,r1,r2,h8,hring]
 ·have a1:=m1 1 (by omega)
  have a2:=m1 2 (by omega)
  have a3:=m1 3 (by omega)
  have a4:=m1 4 (by omega)
  simp at a1 a2 a3 a4 m2 r2
  simp [List.range_succ,IG,JZ,gI,a1,a2,a3,a4,m2,r1,r2,h8,hring]
def rA:Op5:=⟨1,0,0,0,⟨#[97]⟩⟩
def rS (n:Nat) (B:Nat→Nat) (i:Nat):Op5:=⟨4,8+(i:Int),(B i:Int),8+(((i+1) % n:Nat):Int),⟨#[]⟩⟩
def rX (n E:Nat):Op5:=⟨4,8,(E:Int),8+(n:Int),⟨#[]⟩⟩
def rR (i:Nat):Op5:=⟨3,8+(i:Int),0,0,⟨#[]⟩⟩
def IM (n:Nat) (B:Nat→Nat) (E:Nat):List Op5:=(List.replicate (n+1) rA++(List.range n).map (rS n B))++[rX n E]++(List.range (n+1)).map rR
theorem mH (n:Nat) (B:Nat→Nat) (E:Nat):(IM n B E).length=3*n+3:=by simp [IM];omega
theorem iA {l:List Op5} {i:Nat} {o:Op5} (h:l[i]? =some o):po l i=o:=by unfold po;rw [List.getD_eq_getElem?_getD,h];rfl
theorem tF {n:Nat} {B:Nat→Nat} {E i:Nat} (hi:i<n+1):po (IM n B E) i=rA:=by
 refine iA ?_
 unfold IM
 rw [List.getElem?_append_left (by simp;omega),List.getElem?_append_left (by simp;omega),List.getElem?_append_left (by simp;omega),List.getElem?_replicate,if_pos hi]
theorem wB {n:Nat} {B:Nat→Nat} {E i:Nat} (hi:i<n):po (IM n B E) (n+1+i)=rS n B i:=by
 refine iA ?_
 unfold IM
 rw [List.getElem?_append_left (by simp;omega),List.getElem?_append_left (by simp;omega),List.getElem?_append_right (by simp),List.length_replicate,show n+1+i-(n+1)=i by omega,List.getElem?_map,List.getElem?_range hi];rfl
theorem vI {n:Nat} {B:Nat→Nat} {E:Nat}:po (IM n B E) (2*n+1)=rX n E:=by
 refine iA ?_
 unfold IM
 rw [List.getElem?_append_left (by simp;omega),List.getElem?_append_right (by simp;omega)]
 have:2*n+1-(List.replicate (n+1) rA++(List.range n).map (rS n B)).length=0:=by simp;omega
 rw [this];rfl
theorem uU {n:Nat} {B:Nat→Nat} {E i:Nat} (hi:i<n+1):po (IM n B E) (2*n+2+i)=rR i:=by
 refine iA ?_
 unfold IM
 rw [List.getElem?_append_right (by simp;omega)]
 have:2*n+2+i-((List.replicate (n+1) rA++(List.range n).map (rS n B))++[rX n E]).length=i:=by simp;omega
 rw [this,List.getElem?_map,List.getElem?_range hi];rfl
theorem oR {n:Nat} {B:Nat→Nat} {E:Nat} (hn:1≤n∧n≤5) (hB: ∀i,i<n→B i<3) (hE:E<3) (hEB:E≠B 0):JA n (EY (IM n B E) (3*n+3)).1:=by
 have ok:=fun i=>(L8 (IM n B E) i).1
 have pl: ∀i,(EY (IM n B E) (i+1)).1=(CA (EY (IM n B E) i).1 (po (IM n B E) i)).1:=fun i=>rfl
 have hA: ∀a,a≤n+1→RSt n B E a 0 false 0 (EY (IM n B E) a).1.AB∧(EY (IM n B E) a).1.sites.length≤1∧ ∀t∈(EY (IM n B E) a).1.sites,t=⟨#[97]⟩:=fun a=>by
  induction a with
  | zero=>
    intro _
    refine ⟨⟨fun i hi=>by omega,fun i _ h8=> ?_⟩,by simp [EY,hp0],by simp [EY,hp0]⟩
    have:ob hp0.AB i=B7 0:=by unfold hp0 ob;simp only;rw [List.getD_eq_getElem?_getD,List.getElem?_replicate,if_pos h8];rfl
    show (ob hp0.AB i).live=false∧(ob hp0.AB i).gen=0
    rw [this];exact ⟨rfl,rfl⟩
  | succ a ih=>
    intro ha
    obtain ⟨i1,i2,i3⟩:=ih (by omega)
    rw [pl,tF (by omega)]
    exact RSt.alloc (ok a) (by omega) i2 i3 i1
 have hS: ∀s,s≤n→RSt n B E (n+1) s false 0 (EY (IM n B E) (n+1+s)).1.AB:=fun s=>by
  induction s with
  | zero=>intro _;exact (hA (n+1) (Nat.le_refl _)).1
  | succ s ih=>
    intro hs
    rw [←Nat.add_assoc,pl,wB (by omega)]
    exact RSt.store (ok _) (by omega) (by omega) (hB s (by omega)) (ih (by omega))
 have hX:RSt n B E (n+1) n true 0 (EY (IM n B E) (2*n+2)).1.AB:=by
  have h1:=hS n (Nat.le_refl _)
  rw [show n+1+n=2*n+1 by omega] at h1
  rw [show 2*n+2=(2*n+1)+1 by omega,pl,vI]
  exact RSt.y9 (ok _) (by omega) hE hEB h1
 have hR: ∀r,r≤n+1→RSt n B E (n+1) n true r (EY (IM n B E) (2*n+2+r)).1.AB:=fun r=>by
  induction r with
  | zero=>intro _;exact hX
  | succ r ih=>
    intro hr
    rw [←Nat.add_assoc,pl,uU (by omega)]
    exact RSt.release (ok _) (by omega) hB hE hEB (by omega) (ih (by omega))
 have h1:=hR (n+1) (Nat.le_refl _)
 rw [show 2*n+2+(n+1)=3*n+3 by omega] at h1
 exact ⟨ok _,aS _ _,hn,B,E,hB,hE,hEB,h1⟩
end Go.Proofs.Ytklmcfpgdfibnaa.P
namespace Go.Proofs.Ytklmcfpgdfibnaa.P
open Go Go.Proofs.Ytklmcfpgdfibnaa Go.Proofs.Ytklmcfpgdfibnaa.Eng
set_option linter.unusedVariables false
def atM (L:List Int) (k:Nat):Int:=if k<L.length then gI L k else ((k:Int)*37+(L.length:Int)*11) % 256
theorem uJ {L:List Int} (hb:oT L) (k:Nat):0≤atM L k∧atM L k≤255:=by
 unfold atM
 split
 ·rename_i h
  have:=hb.at h
  omega
 ·omega
set_option maxHeartbeats 4000000
set_option linter.unusedVariables false
set_option linter.unusedSimpArgs false
attribute [local irreducible] prP gP gE gF AW ixW ldc ldg ldl stc stg scW mkW apW AZ cl2 BJ CH B2
variable {w0:World}
theorem VU {L:List Int} {k:Nat} {K:J2} (hb:oT L) (hl:L.length≤1048576) (hk:k≤1000) (h:K [I (atM L k)] []):cl2 ⟨Try.prog,w0⟩ 38 IQ.sg [iv k] [tY L] K:=by
 refine IQ.cl2 ?_
 unfold IQ.txt
 rw [oP]
 unfold atM at h
 refine BE (BB (fun hlt=> ?_) fun hge=> ?_)
 ·have hlt:k<L.length:=by omega
  have hx:=hb.at hlt
  rw [if_pos hlt] at h
  exact BF hlt (ldY hlt (mY ⟨by omega,by omega⟩ h))
 ·rw [if_neg (by omega)] at h
  exact Y7 ⟨by omega,by omega⟩ (Y7 ⟨by omega,by omega⟩ (FZ ⟨by omega,by omega⟩ (O7 (by omega) (by omega) h)))
theorem S8 {t:Int} {K:J2} (ht:t=1∨t=2) (h: ∀s:ByteArray,s≠⟨#[]⟩→K [.string s] []):cl2 ⟨Try.prog,w0⟩ 41 EA.sg [I t] [] K:=by
 refine EA.cl2 ?_
 unfold EA.txt
 refine CT (BB (fun _=>h _ (by decide)) fun h1=>CT (BB (fun _=>h _ (by decide)) fun h2=> ?_))
 omega
attribute [local irreducible] EY
theorem jR {L:List Int} (g:V6 L) {K:J2} (done:K [.bool true] []):FN.txt ⟨Try.prog,w0⟩ (tY L) K:=by
 unfold FN.txt
 refine cT (BB (fun _=>done) fun hsz=> ?_)
 have hb:=g.f hsz
 have bd:=uJ hb
 obtain ⟨n,en⟩: ∃n:Nat,1+atM L 0 % 5=(n:Int):=⟨(1+atM L 0 % 5).toNat,by have:=bd 0;omega⟩
 obtain ⟨B,eB⟩: ∃B:Nat→Nat, ∀i,(B i:Int)=atM L (i+1) % 3:=⟨fun i=>(atM L (i+1) % 3).toNat,fun i=>Int.toNat_of_nonneg (by have:=bd (i+1);omega)⟩
 obtain ⟨E,eE⟩: ∃E:Nat,(E:Int)=(atM L 1+1) % 3:=⟨((atM L 1+1) % 3).toNat,by have:=bd 1;omega⟩
 have hn:1≤n∧n≤5:=by have:=bd 0;omega
 have hB: ∀i,B i<3:=fun i=>by have:=eB i;have:=bd (i+1);omega
 have hE:E<3:=by have:=bd 1;omega
 have hEB:E≠B 0:=by have:=eB 0;have:=bd 1;simp only [Nat.zero_add] at*;omega
 refine VU (k:=0) hb (by omega) (by omega) (O7 (bd 0).1 (by omega) (FZ (a:=1) ⟨by omega,by omega⟩ ?_))
 rw [en]
 refine BL (fun i=>[iv n,iv i]) (fun i=>[tR tP (List.replicate i rA)]) (n+1) (fun _=>True) rfl rfl trivial (fun R i hi _ hR=> ?_)
 simp only [AJ,AO,AS,AN,AQ,AG,AK,AI,AR,AT,AU,AM,AL,AP,BP,BU,BW,BT,BV,BS,BQ,AY,A6,A7,A4,A5,A8]
 refine IU (BB (fun hle=> ?_) fun hgt=> ?_)
 ·have hR:=hR (by omega) trivial
  refine GH rfl (by simp only [List.length_replicate];omega) (A9 (by omega) ?_)
  rw [List.replicate_succ', ←MV] at hR
  exact hR
 have:i=n+1:=by omega
 subst this
 clear hR R
 refine BL (fun i=>[iv n,iv i]) (fun i=>[tR tP (List.replicate (n+1) rA++(List.range i).map (rS n B))]) n (fun _=>True) rfl (by simp) trivial (fun R i hi _ hR=> ?_)
 simp only [AJ,AO,AS,AN,AQ,AG,AK,AI,AR,AT,AU,AM,AL,AP,BP,BU,BW,BT,BV,BS,BQ,AY,A6,A7,A4,A5,A8]
 refine BE (BB (fun hlt=> ?_) fun hge=> ?_)
 ·have hlt:i<n:=by omega
  have hR:=hR hlt trivial
  have bi:=bd (i+1)
  have hm:((i+1:Nat):Int) % (n:Int)=(((i+1) % n:Nat):Int):=by push_cast;rfl
  have hm2:(i+1) % n<n:=Nat.mod_lt _ (by omega)
  refine FZ (a:=8) ⟨by omega,by omega⟩ (A9 (by omega) (VU (k:=i+1) hb (by omega) (by omega) ?_))
  simp only [BP]
  refine O7 bi.1 (by omega) (A9 (by omega) (O7 (a:=((i+1:Nat):Int)) (by omega) (by omega) ?_))
  rw [hm, ←eB]
  refine FZ (a:=8) ⟨by omega,by omega⟩ (GH rfl (by simp;omega) (A9 (by omega) ?_))
  rw [List.range_succ,List.map_append, ←List.append_assoc,List.map_singleton, ←MV] at hR
  exact hR
 have:i=n:=by omega
 subst this
 clear hR R
 have b1:=bd 1
 refine VU (k:=1) hb (by omega) (by omega) ?_
 simp only [BP]
 refine FZ ⟨by omega,by omega⟩ (O7 (by omega) (by omega) ?_)
 rw [←eE]
 refine FZ (a:=8) ⟨by omega,by omega⟩ (GH rfl (by simp;omega) ?_)
 refine BL (fun j=>[iv i,iv j]) (fun j=>[tR tP ((List.replicate (i+1) rA++(List.range i).map (rS i B))++[rX i E]++(List.range j).map rR)]) (i+1) (fun _=>True) rfl ?_ trivial (fun R j hj _ hR=> ?_)
 ·rw [List.range_zero,List.map_nil,List.append_nil, ←MV];rfl
 simp only [AJ,AO,AS,AN,AQ,AG,AK,AI,AR,AT,AU,AM,AL,AP,BP,BU,BW,BT,BV,BS,BQ,AY,A6,A7,A4,A5,A8]
 refine IU (BB (fun hle=> ?_) fun hgt=> ?_)
 ·have hR:=hR (by omega) trivial
  refine FZ (a:=8) ⟨by omega,by omega⟩ (GH rfl (by simp;omega) (A9 (by omega) ?_))
  rw [List.range_succ,List.map_append, ←List.append_assoc,List.map_singleton, ←MV] at hR
  exact hR
 have:j=i+1:=by omega
 subst this
 clear hR R
 have re:=oR hn (fun k _=>hB k) hE hEB
 have rl:=mH i B E
 rw [show (List.replicate (i+1) rA++(List.range i).map (rS i B))++[rX i E]++(List.range (i+1)).map rR=IM i B E from rfl]
 have pl:=(L8 (IM i B E) (3*i+3)).2
 have ho: ∀o∈IM i B E,OpF o:=fun o ho=>by
  have hm: ∀k,((k+1) % i:Nat)<i:=fun k=>Nat.mod_lt _ (by omega)
  unfold IM at ho
  simp only [List.mem_append,List.mem_replicate,List.mem_map,List.mem_range,List.mem_singleton] at ho
  rcases ho with (⟨⟨_,rfl⟩ | ⟨k,hk,rfl⟩⟩ | rfl) | ⟨k,hk,rfl⟩
  ·exact ⟨BM (by decide),BM (by decide),BM (by decide),BM (by decide),by decide⟩
  ·have:=hm k;have:=hB k
   exact ⟨BM (by simp only [rS];omega),BM (by simp only [rS];omega),BM (by simp only [rS];omega),BM (by simp only [rS];omega),show ((ByteArray.mk #[]).size:Int)<2^63 by decide⟩
  ·exact ⟨BM (by simp only [rX];omega),BM (by simp only [rX];omega),BM (by simp only [rX];omega),BM (by simp only [rX];omega),show ((ByteArray.mk #[]).size:Int)<2^63 by decide⟩
  ·exact ⟨BM (by simp only [rR];omega),BM (by simp only [rR];omega),BM (by simp only [rR];omega),BM (by simp only [rR];omega),show ((ByteArray.mk #[]).size:Int)<2^63 by decide⟩
 refine aZ (by omega) ho ?_
 rw [show min (IM i B E).length 400=3*i+3 by omega]
 generalize (EY (IM i B E) (3*i+3)).2=an at pl ⊢
 generalize (EY (IM i B E) (3*i+3)).1=x at re ⊢
 generalize IM i B E=l at rl ⊢
 have ok:=re.ok
 have gd:=re.gd
 have ol:=ok.ol
 have elk:=re.G5
 have ell:=re.B1
 have ler:=re.SZ
 have lll:(B1 x.AB).length=i+1:=by rw [ell];simp
 have llk:(G5 x.AB).length=i+1:=by rw [elk,lll]
 have hLv:=fun {K:J2} (hK:K [] [tI (B1 x.AB)])=>I0 (w0:=w0) (b:=tR tW x.CB) (c:=tI x.buffer) (d:=tS x.sites) (K:=K) (a:=x.AB) (by omega) hK
 have hLk:=fun {K:J2} (hK:K [] [tR tLk (lkM x.AB)])=>ZH (w0:=w0) (K:=K) ok hK
 have hWa:=fun {K:J2} (hK:K [iv (G5 x.AB).length] [])=>WH (w0:=w0) (K:=K) ok hK
 have hAp:=fun {K:J2} hK=>Y2 (w0:=w0) (K:=K) (o:=⟨10,0,0,0,⟨#[]⟩⟩) ok.fits ok.Y5 (BM (by decide)) (BM (by decide)) hK
 refine MN ok ?_
 rw [ler]
 have hel: ∀k,k<i+1→(lkM x.AB)[k]? =some (8+(k:Int),if k=i then 2 else 1,(ob x.AB (AA x.AB (8+(k:Int))).toNat).site):=fun k hk=>by
  unfold lkM
  rw [elk,ell,List.getElem?_map,List.getElem?_map,List.getElem?_range hk]
  simp only [Option.map_some,lk1]
  by_cases hki:k=i
  ·subst hki
   rw [if_pos rfl,re.no (by omega)];rfl
  ·rw [if_neg hki,re.ring (by omega) (by omega)];rfl
 have hll:(lkM x.AB).length=i+1:=by simp [lkM,llk]
 generalize lkM x.AB=lks at hel hll hLk ⊢
 simp only [trees,List.cons_append,List.nil_append]
 simp only [AJ,AO,AS,AN,AQ,AG,AK,AI,AR,AT,AU,AM,AL,AP,BP,BU,BW,BT,BV,BS,BQ,AY,A6,A7,A4,A5,A8]
 have p1: ¬(an.length:Int)≠(l.length:Nat):=by omega
 have p2: ¬((B1 x.AB).length:Int)≠((i+1:Nat):Int):=by omega
 refine DN (B9 (sZ p1 (hLv ?_)))
 simp only [BP,AY,AG]
 refine B9 (B9 (D9 p1 (A9 (by omega) (D9 p1 (DN (F8 p1 rfl ?_))))))
 obtain ⟨rg,erg⟩: ∃rg:List Int,(List.range i).map (fun k:Nat=>8+(k:Int))=rg:=⟨_,rfl⟩
 have lrg:rg.length=i:=by rw [←erg];simp
 rw [erg]
 have ha:([rg].map some)[0]? =some (some rg):=rfl
 have p3: ¬((1:Nat):Int)≠1:=by decide
 have p4: ¬(rg.length:Int)≠(i:Int):=by omega
 simp only [LH,List.length_map,List.length_singleton]
 refine B9 (B9 (D9 p2 (DN (F8 p2 rfl ?_))))
 refine B9 (D9 p3 (BF (j:=0) (by decide) (B9 (D9 p3 (uA ha (B9 (B9 (D9 p3 ?_))))))))
 rw [c9 ha]
 simp only [AG]
 refine DN (F8 p3 rfl (B9 (sZ p4 (hLk ?_))))
 simp only [AY,TW]
 have p5: ¬(lks.length:Int)≠((i+1:Nat):Int):=by omega
 have p6: ¬((G5 x.AB).length:Int)≠((i+1:Nat):Int):=by omega
 refine B9 (B9 (D9 p4 (A9 (by omega) (D9 p4 (DN (F8 p4 rfl ?_))))))
 refine B9 (D9 p5 (hWa (B9 (D9 p5 (A9 (by omega) (D9 p5 (DN (F8 p5 rfl (HI p6 (hLk ?_))))))))))
 simp only [AJ,AO,AS,AN,AQ,AG,AK,AI,AR,AT,AU,AM,AL,AP,BP,BU,BW,BT,BV,BS,BQ,AY,A6,A7,A4,A5,A8]
 refine BL (fun j=>[iv i,iv j]) (fun _=>[tR tLk lks,tR tO x.AB,tR tW x.CB,tI x.buffer,tS x.sites]) (i+1) (fun _=>True) rfl rfl trivial (fun R j hj _ hR=> ?_)
 simp only [AJ,AO,AS,AN,AQ,AG,AK,AI,AR,AT,AU,AM,AL,AP,BP,BU,BW,BT,BV,BS,BQ,AY,A6,A7,A4,A5,A8]
 try simp only [TW]
 refine IU (BB (fun hle=> ?_) fun hgt=> ?_)
 ·have hlj:j<lks.length:=by omega
  have hR:=hR (by omega) trivial
  refine iD (fun xs cs=>xs=[iv i,iv j,I (if j=i then 2 else 1)]∧cs=[tR tLk lks,tR tO x.AB,tR tW x.CB,tI x.buffer,tS x.sites]) ?_ fun jn hjn=> ?_
  rotate_left
  ·refine CT (BB (fun he=>hjn _ _ ⟨by rw [if_pos (by omega)],rfl⟩) fun he=>hjn _ _ ⟨by rw [if_neg (by omega)],rfl⟩)
  rintro xs cs ⟨rfl,rfl⟩
  simp only [AJ,AO,AS,AN,AQ,AG,AK,AI,AR,AT,AU,AM,AL,AP,BP,BU,BW,BT,BV,BS,BQ,AY,A6,A7,A4,A5,A8]
  try simp only [TW]
  have hei:lks[j]=(8+(j:Int),if j=i then 2 else 1,(ob x.AB (AA x.AB (8+(j:Int))).toNat).site):=by
   have:=hel j (by omega)
   rw [List.getElem?_eq_getElem hlj] at this
   exact Option.some.inj this
  have ld0: ∀{K:Value→Prop},K (I (8+(j:Int)))→ldc (tR tLk lks) [] (AD (iv j)*3) K:=fun hK=>ZQ hlj (by rw [hei];rfl) hK
  have ld1: ∀{K:Value→Prop},K (I (if j=i then 2 else 1))→ldc (tR tLk lks) [] (AD (iv j)*3+1) K:=fun hK=>UL hlj (by decide) (by rw [hei];rfl) hK
  obtain ⟨kd,ek⟩: ∃kd:Int,(if j=i then (2:Int) else 1)=kd:=⟨_,rfl⟩
  rw [ek] at ld1 ⊢
  have hkd:kd=1∨kd=2:=by rw [←ek];split <;> simp
  have q1: ¬(8+(j:Int))≠8+(j:Int):=fun hh=>hh rfl
  have q2: ¬kd≠kd:=fun hh=>hh rfl
  refine BF hlj (ld0 (FZ (a:=8) ⟨by omega,by omega⟩ (DN (B9 (B9 (D9 q1 (BF hlj (B9 (D9 q1 (ld1 (B9 (D9 q1 (DN (F8 q1 rfl ?_))))))))))))))
  exact B9 (D9 q2 (S8 hkd fun s hs=>D9 q2 (nG (F8 q2 rfl (HI hs (A9 (by omega) hR))))))
 refine hAp ?_
 have okx:BG ⟨(F9 x.AB x.buffer).1,x.CB,[],x.sites⟩:=by
  have:=ok.step (o:=⟨10,0,0,0,⟨#[]⟩⟩)
  rw [SG] at this;exact this
 have e4:(F9 x.AB x.buffer).2=G5 x.AB:=(eO ok gd).symm
 have R:=dN ok.hp gd
 have e3:B1 (F9 x.AB x.buffer).1=[]:=XN fun k k8=>by
  cases hv:(ob (F9 x.AB x.buffer).1 k).live with
  | false=>rfl
  | true=>exact absurd ((R.lv k k8).1 hv) (re.noR k)
 have e5:SZ (F9 x.AB x.buffer).1=[]:=by unfold SZ b9 VQ;rw [e3];rfl
 have cl:=R.len
 rw [aQ ok,SG,e4]
 generalize (F9 x.AB x.buffer).1=os' at okx e3 e5 cl ⊢
 have hLr:=fun {K:J2} hK=>MN (w0:=w0) (K:=K) okx hK
 have hLv2:=fun {K:J2} hK=>I0 (w0:=w0) (b:=tR tW x.CB) (c:=tI []) (d:=tS x.sites) (K:=K) (a:=os') (by omega) hK
 simp only [trees,List.cons_append,List.nil_append] at hLr ⊢
 refine hLv2 ?_
 rw [e3]
 simp only [AY,A6,A7,A4,A5,AG]
 refine CT (a:=((([]:List Int).length:Nat):Int)) ?_
 rw [show decide (((([]:List Int).length:Nat):Int)=0)=true from rfl]
 refine B9 (B9 (B9 (B9 (bA (A9 (by omega) (bA (CT (lO rfl ?_))))))))
 rw [decide_eq_true (show ((G5 x.AB).length:Int)=((i+1:Nat):Int) by omega)]
 refine B9 (wM (hLr ?_))
 rw [e5]
 refine B9 (bA (CT (a:=0) (lO rfl ?_)))
 exact done
end Go.Proofs.Ytklmcfpgdfibnaa.P
