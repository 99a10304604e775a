/- A part of the proof. -/
import Derived.Test.YtklmcfpgdfibnaaRiKepA
import Derived.Test.YtklmcfpgdfibnaaRiWayA
namespace Go.Proofs.Ytklmcfpgdfibnaa.P
open Go Go.Proofs.Ytklmcfpgdfibnaa Go.Proofs.Ytklmcfpgdfibnaa.Eng
set_option linter.unusedVariables false
def ldB (os:List AE) (a b:Int):Bool:=decide (b∈kG os (LS os (-1) (ob os (AA os a).toNat).field))
def muB (os:List AE) (a b:Int):Bool:=ldB os a b&&ldB os b a
theorem cH (os:List AE) (a b:Int):muB os a b=muB os b a:=Bool.and_comm _ _
theorem SB {x:Hp} (hk:BG x) {a b:Int} {k m:Nat} (ha:AA x.AB a=(k:Int)) (hb:AA x.AB b=(m:Int)):ldB x.AB a b=true↔RB x.AB (ob x.AB k).field m:=by
 unfold ldB
 rw [decide_eq_true_eq,ha,Int.toNat_natCast]
 obtain ⟨m8,mv,eb⟩:=qB hk hb
 rw [eb]
 exact O6 hk m8 mv
theorem QE {os:List AE} {k m:Nat}:RB os (ob os k).field m↔ ∃j:Nat,(j:Int)∈BC os k∧Reach os j m:=by
 constructor
 ·rintro ⟨f,hf,s,hs,hr⟩
  exact ⟨s,EI.2 ⟨by omega,f,hf,hs⟩,hr⟩
 ·rintro ⟨j,hj,hr⟩
  obtain ⟨_,f,hf,hs⟩:=EI.1 hj
  exact ⟨f,hf,j,hs,hr⟩
theorem nE {os:List AE} {a b c:Nat} (h1:RB os (ob os a).field b) (h2:RB os (ob os b).field c):RB os (ob os a).field c:=by
 obtain ⟨j,hj,hr⟩:=QE.1 h1
 obtain ⟨i,hi,hs⟩:=QE.1 h2
 refine QE.2 ⟨j,hj,(Reach.step hr hi).trans ?_⟩
 rw [Int.toNat_natCast];exact hs
theorem Z2 {x:Hp} (hk:BG x) {a b c:Int} (ha:0≤AA x.AB a) (hb:0≤AA x.AB b) (hc:0≤AA x.AB c) (h1:ldB x.AB a b=true) (h2:ldB x.AB b c=true):ldB x.AB a c=true:=by
 obtain ⟨k,ek⟩: ∃k:Nat,AA x.AB a=k:=⟨(AA x.AB a).toNat,by omega⟩
 obtain ⟨m,em⟩: ∃k:Nat,AA x.AB b=k:=⟨(AA x.AB b).toNat,by omega⟩
 obtain ⟨n,en⟩: ∃k:Nat,AA x.AB c=k:=⟨(AA x.AB c).toNat,by omega⟩
 rw [SB hk ek em] at h1
 rw [SB hk em en] at h2
 exact (SB hk ek en).2 (nE h1 h2)
theorem HO {x:Hp} (hk:BG x) {v:Int} (hv:v∈B1 x.AB):0≤AA x.AB v:=by
 obtain ⟨k,k8,kv,rfl⟩:=(XO hk).1 hv
 rw [RJ hk k8 kv];omega
theorem aM {x:Hp} (hk:BG x) {a b c:Int} (ha:a∈B1 x.AB) (hb:b∈B1 x.AB) (hc:c∈B1 x.AB) (h1:muB x.AB a b=true) (h2:muB x.AB b c=true):muB x.AB a c=true:=by
 unfold muB at*
 rw [Bool.and_eq_true] at*
 have sa:=HO hk ha
 have sb:=HO hk hb
 have sc:=HO hk hc
 exact ⟨Z2 hk sa sb sc h1.1 h2.1,Z2 hk sc sb sa h2.2 h1.2⟩
theorem OQ {x:Hp} (hk:BG x):(B1 x.AB).Nodup:=by
 have e:B1 x.AB=pick (EZ x.AB) 8:=by unfold B1;rw [hk.ol]
 rw [e]
 have key: ∀n,n≤8→(pick (EZ x.AB) n).Nodup:=fun n=>by
  induction n with
  | zero=>intro _;exact List.nodup_nil
  | succ n ih=>
    intro hn
    show (pick (EZ x.AB) n++EZ x.AB n).Nodup
    refine List.nodup_append.2 ⟨ih (by omega), ?_,fun a ha b hb he=> ?_⟩
    ·unfold EZ;split <;> simp
    ·subst he
     obtain ⟨i,hi,h1⟩:=JN.1 ha
     unfold EZ at h1 hb
     split at h1
     ·rename_i c1
      split at hb
      ·rename_i c2
       have e1:=List.mem_singleton.1 h1
       have e2:=List.mem_singleton.1 hb
       have:=mJ hk (show i<8 by omega) c1.2 (show n<8 by omega) c2.2 (by rw [←e1, ←e2])
       omega
      ·cases hb
     ·cases h1
 exact key 8 (Nat.le_refl _)
def JZ (mu:Int→Int→Bool) (ids:List Int) (i:Nat):List Int:=gI ids i::(ids.drop (i+1)).filter (mu (gI ids i))
def IG (mu:Int→Int→Bool) (ids:List Int):Nat→List (List Int)×List Int
 | 0=>([],[])
 | i+1=>if gI ids i∈(IG mu ids i).2 then IG mu ids i else ((IG mu ids i).1++[JZ mu ids i],(IG mu ids i).2++JZ mu ids i)
structure xA (mu:Int→Int→Bool) (ids:List Int) (i:Nat) (s:List (List Int)×List Int):Prop where
 fl:s.2=s.1.flatten
 nd:s.2.Nodup
 sub: ∀x∈s.2,x∈ids
 all: ∀j,j<i→gI ids j∈s.2
 form: ∀g∈s.1, ∃j,j<i∧j<ids.length∧g=JZ mu ids j
 apart:s.1.Pairwise fun a b=>mu (gI b 0) (gI a 0)=false
theorem oW {ids:List Int} {i j:Nat} (h:j<i) (hi:i<ids.length):gI ids i∈ids.drop (j+1):=by
 rw [←DE hi]
 exact List.mem_drop_iff_getElem.2 ⟨i-(j+1),by omega,by congr 1;omega⟩
theorem Y4 {mu:Int→Int→Bool} {ids:List Int} (hn:ids.Nodup) (hs: ∀a b,mu a b=mu b a) (ht: ∀a∈ids, ∀b∈ids, ∀c∈ids,mu a b=true→mu b c=true→mu a c=true): ∀i,i≤ids.length→xA mu ids i (IG mu ids i)
 | 0,_=>⟨rfl,List.nodup_nil,by simp [IG],by simp,by simp [IG],List.Pairwise.nil⟩
 | i+1,hi=>by
   have h:=Y4 hn hs ht i (by omega)
   have hil:i<ids.length:=by omega
   have hm:gI ids i∈ids:=D6 hil
   simp only [IG]
   split
   ·rename_i hd
    exact ⟨h.fl,h.nd,h.sub,fun j hj=>by
     by_cases hji:j=i
     ·subst hji;exact hd
     ·exact h.all j (by omega),fun g hg=>by obtain ⟨j,a,b,c⟩:=h.form g hg;exact ⟨j,by omega,b,c⟩,h.apart⟩
   ·rename_i hd
    have key: ∀g∈(IG mu ids i).1,mu (gI g 0) (gI ids i)=false:=fun g hg=>by
     obtain ⟨j,hj,hjl,rfl⟩:=h.form g hg
     cases hmu:mu (gI (JZ mu ids j) 0) (gI ids i) with
     | false=>rfl
     | true=>
       exfalso
       apply hd
       rw [h.fl]
       refine List.mem_flatten.2 ⟨_,hg, ?_⟩
       unfold JZ
       exact List.mem_cons_of_mem _ (List.mem_filter.2 ⟨oW hj hil,hmu⟩)
    have gsub: ∀x∈JZ mu ids i,x∈ids:=fun x hx=>by
     unfold JZ at hx
     rcases List.mem_cons.1 hx with rfl | hx
     ·exact hm
     ·exact List.mem_of_mem_drop (List.mem_filter.1 hx).1
    refine ⟨?_, ?_, ?_, ?_, ?_, ?_⟩
    ·rw [h.fl,List.flatten_append];simp
    ·refine List.nodup_append.2 ⟨h.nd, ?_,fun x hx y hy he=> ?_⟩
     ·unfold JZ
      have hd2:ids.drop i=gI ids i::ids.drop (i+1):=by rw [List.drop_eq_getElem_cons hil,DE hil]
      have hnd:=hn.sublist (List.drop_sublist i ids)
      rw [hd2] at hnd
      have:=List.nodup_cons.1 hnd
      exact List.nodup_cons.2 ⟨fun hh=>this.1 (List.mem_filter.1 hh).1,this.2.sublist List.filter_sublist⟩
     ·subst he
      rw [h.fl] at hx
      obtain ⟨g,hg,hxg⟩:=List.mem_flatten.1 hx
      have k1:=key g hg
      obtain ⟨j,hj,hjl,rfl⟩:=h.form g hg
      have hjm:gI ids j∈ids:=D6 hjl
      have k1:mu (gI ids j) (gI ids i)=false:=k1
      have hx1:x=gI ids j∨mu (gI ids j) x=true:=by
       unfold JZ at hxg
       rcases List.mem_cons.1 hxg with rfl | hh
       ·exact .inl rfl
       ·exact .inr (List.mem_filter.1 hh).2
      have hx2:x=gI ids i∨mu (gI ids i) x=true:=by
       unfold JZ at hy
       rcases List.mem_cons.1 hy with rfl | hh
       ·exact .inl rfl
       ·exact .inr (List.mem_filter.1 hh).2
      have hxm:=gsub x hy
      have:mu (gI ids j) (gI ids i)=true:=by
       rcases hx2 with rfl | hx2
       ·rcases hx1 with e | hx1
        ·exfalso;apply hd;rw [h.fl];exact hx
        ·exact hx1
       ·rw [hs] at hx2
        rcases hx1 with rfl | hx1
        ·exact hx2
        ·exact ht _ hjm _ hxm _ hm hx1 hx2
      rw [k1] at this;cases this
    ·intro x hx
     rcases List.mem_append.1 hx with hx | hx
     ·exact h.sub x hx
     ·exact gsub x hx
    ·intro j hj
     by_cases hji:j=i
     ·subst hji;exact List.mem_append_right _ (by unfold JZ;simp)
     ·exact List.mem_append_left _ (h.all j (by omega))
    ·intro g hg
     rcases List.mem_append.1 hg with hg | hg
     ·obtain ⟨j,a,b,c⟩:=h.form g hg;exact ⟨j,by omega,b,c⟩
     ·exact ⟨i,by omega,hil,List.mem_singleton.1 hg⟩
    ·refine List.pairwise_append.2 ⟨h.apart,by simp,fun a ha b hb=> ?_⟩
     rw [List.mem_singleton.1 hb]
     have:=key a ha
     rw [hs] at this
     exact this
def VQ (os:List AE):List (List Int):=(IG (muB os) (B1 os) (B1 os).length).1
theorem bV {x:Hp} (hk:BG x):xA (muB x.AB) (B1 x.AB) (B1 x.AB).length (IG (muB x.AB) (B1 x.AB) (B1 x.AB).length):=
 Y4 (OQ hk) (cH _) (fun a ha b hb c hc=>aM hk ha hb hc) _ (Nat.le_refl _)
theorem jH {x:Hp} (hk:BG x):(VQ x.AB).flatten.Perm (B1 x.AB):=by
 have h:=bV hk
 have e:(VQ x.AB).flatten=(IG (muB x.AB) (B1 x.AB) (B1 x.AB).length).2:=h.fl.symm
 rw [e]
 refine (List.perm_ext_iff_of_nodup h.nd (OQ hk)).2 fun v=>⟨h.sub v,fun hv=> ?_⟩
 obtain ⟨j,hj,rfl⟩:=List.getElem_of_mem hv
 rw [DE hj];exact h.all j hj
theorem SD {x:Hp} (hk:BG x) {g:List Int} (hg:g∈VQ x.AB):0<g.length∧(∀v∈g,v∈B1 x.AB)∧ ∀j,0<j→j<g.length→muB x.AB (gI g 0) (gI g j)=true:=by
 have h:=bV hk
 obtain ⟨i,hi,hil,rfl⟩:=h.form g hg
 refine ⟨by simp [JZ],fun v hv=>h.sub v (by rw [h.fl];exact List.mem_flatten.2 ⟨_,hg,hv⟩),fun j hj hl=> ?_⟩
 unfold JZ at hl ⊢
 have e0:gI (gI (B1 x.AB) i::((B1 x.AB).drop (i+1)).filter (muB x.AB (gI (B1 x.AB) i))) 0=gI (B1 x.AB) i:=rfl
 rw [e0]
 obtain ⟨j,rfl⟩: ∃j',j=j'+1:=⟨j-1,by omega⟩
 simp only [List.length_cons] at hl
 have hl':j<(((B1 x.AB).drop (i+1)).filter (muB x.AB (gI (B1 x.AB) i))).length:=by omega
 have e1:gI (gI (B1 x.AB) i::((B1 x.AB).drop (i+1)).filter (muB x.AB (gI (B1 x.AB) i))) (j+1)=gI (((B1 x.AB).drop (i+1)).filter (muB x.AB (gI (B1 x.AB) i))) j:=rfl
 rw [e1, ←DE hl']
 exact (List.mem_filter.1 (List.getElem_mem hl')).2
theorem bG {x:Hp} (hk:BG x):(VQ x.AB).length≤8∧ ∀g∈VQ x.AB,g.length≤8:=by
 have hp:=(jH hk).length_eq
 have ll:=KF x.AB
 have:=hk.ol
 have hf: ∀{l:List (List Int)},(∀g∈l,0<g.length)→l.length≤l.flatten.length∧ ∀g∈l,g.length≤l.flatten.length:=fun {l}=>by
  induction l with
  | nil=>intro _;simp
  | cons a l ih=>
    intro h
    obtain ⟨i1,i2⟩:=ih fun g hg=>h g (by simp [hg])
    have:=h a (by simp)
    refine ⟨by simp only [List.length_cons,List.flatten_cons,List.length_append];omega,fun g hg=> ?_⟩
    simp only [List.flatten_cons,List.length_append]
    rcases List.mem_cons.1 hg with rfl | hg
    ·omega
    ·have:=i2 g hg;omega
 obtain ⟨h1,h2⟩:=hf fun g hg=>(SD hk hg).1
 exact ⟨by omega,fun g hg=>by have:=h2 g hg;omega⟩
def isRing (os:List AE) (g:List Int):Bool:=decide (g.length>1)||ldB os (gI g 0) (gI g 0)
def b9 (os:List AE):List (List Int):=(VQ os).filter (isRing os)
def SZ (os:List AE):List (List Int):=(b9 os).filter fun g=>decide (gI g 0∈G5 os)
theorem Rch.on {os:List AE} {a b:Nat} (h:Rch os a) (hr:RB os (ob os a).field b):Rch os b:=by
 obtain ⟨e,he,h⟩:=h
 obtain ⟨j,hj,hr⟩:=QE.1 hr
 refine ⟨e,he,(Reach.step h hj).trans ?_⟩
 rw [Int.toNat_natCast];exact hr
end Go.Proofs.Ytklmcfpgdfibnaa.P
namespace Go.Proofs.Ytklmcfpgdfibnaa.P
open Go Go.Proofs.Ytklmcfpgdfibnaa Go.Proofs.Ytklmcfpgdfibnaa.Eng
set_option linter.unusedVariables false
theorem o4 {n a:Nat} (h:a≤n) {K:Value→Value→Prop} (hK:K (iv a) (iv (n-a))):scW n (some (iv a)) none K:=⟨a,n,rfl,rfl,h,Nat.le_refl _,hK⟩
theorem w3 {l:List Int} {i:Nat} {K:Value→Prop} (hi:i<l.length) (h:K (I (gI l i))):ldc (tI l) [] i K:=⟨_,by rw [←DE hi];exact dY hi,h⟩
def tGe:Option (List Int)→T
 | some g=> .l 1 (tI g)
 | none=> .x
def tGo (l:List (Option (List Int))):List T:=l.map tGe
abbrev tG (l:List (List Int)):List T:=tGo (l.map some)
theorem LH (l:List (Option (List Int))):cnt 1 (tGo l)=l.length:=by simp [cnt,tGo]
theorem RT {l:List (Option (List Int))} {i:Nat} {g:List Int} (h:l[i]? =some (some g)):(tGo l)[i]? =some (.l 1 (tI g)):=by simp [tGo,h,tGe]
theorem XZ (l:List (List Int)) (g:List Int):tG l++[T.l 1 (tI g)]=tG (l++[g]):=by simp [tG,tGo,tGe]
section
variable {l:List (Option (List Int))} {i:Nat} {g:List Int}
theorem uA {K:Value→Prop} (h:l[i]? =some (some g)) (hK:K (iv 0)):ldl (tGo l) [] (AD (iv i)*1) 1 K:=by
 rw [BA,Nat.mul_one]
 exact ⟨⟨tI g,RT h⟩,hK⟩
theorem c9 (h:l[i]? =some (some g)):HX (tGo l) [AD (iv i)*1]=tI g:=by
 rw [BA,Nat.mul_one]
 simp [HX,node,RT h]
theorem eI {j:Nat} {K:Value→Prop} (h:l[i]? =some (some g)) (hj:j<g.length) (hK:K (I (gI g j))):ldc (tGo l) [AD (iv i)*1] (AD (iv j)*1) K:=by
 rw [BA,BA,Nat.mul_one,Nat.mul_one]
 refine ⟨I (gI g j), ?_,hK⟩
 unfold cell
 simp only [node,RT h,Option.bind_some]
 rw [←DE hj];exact dY hj
theorem nR {K:List T→Prop} (h:l[i]? =some (some g)) (hK:K [T.l 1 (tI g)]):ldg (tGo l) [] (AD (iv i)*1) [.l 1] K:=by
 rw [BA,Nat.mul_one]
 refine ⟨_, ?_,rfl,hK⟩
 unfold I2
 simp only [node,List.length_singleton]
 rw [List.take_one,List.head?_drop,RT h];rfl
theorem tC {K:List T→List T→Prop} (h:l[i]? =some (some g)) (hK:K (tI g) (tGo (l.set i none))):mvW (tGo l) [] (AD (iv i)*1) 1 K:=by
 rw [BA,Nat.mul_one]
 refine ⟨tI g,RT h, ?_⟩
 have hl:i<(tGo l).length:=(List.getElem?_eq_some_iff.1 (RT h)).1
 have e:IH (tGo l) [] i [.x]=tGo (l.set i none):=by
  unfold IH
  simp only [node,GG]
  rw [T4 hl]
  unfold tGo
  rw [List.map_set];rfl
 rw [e];exact hK
end
def gG (l:List (List Int)) (i:Nat):List Int:=l.getD i []
theorem e9 {l:List (List Int)} {i:Nat} (h:i<l.length):l[i]=gG l i:=by simp [gG,h]
theorem pT {l:List (List Int)} {i:Nat} (h:i<l.length):(l.map some)[i]? =some (some (gG l i)):=by rw [List.getElem?_map,List.getElem?_eq_getElem h,e9 h];rfl
theorem eK {l:List (List Int)} {i:Nat} (h:i<l.length):gG l i∈l:=by rw [←e9 h];exact List.getElem_mem h
def NF (l:List (List Int)) (i:Nat) (lo:List (Option (List Int))):Prop:=lo.length=l.length∧ ∀j,i≤j→j<l.length→lo[j]? =some (some (gG l j))
theorem NF.start (l:List (List Int)):NF l 0 (l.map some):=⟨by simp,fun j _ hj=>pT hj⟩
theorem NF.next {l:List (List Int)} {i:Nat} {lo:List (Option (List Int))} (h:NF l i lo):NF l (i+1) lo:=⟨h.1,fun j hj hl=>h.2 j (by omega) hl⟩
theorem NF.gone {l:List (List Int)} {i:Nat} {lo:List (Option (List Int))} (h:NF l i lo):NF l (i+1) (lo.set i none):=⟨by simp [h.1],fun j hj hl=>by rw [List.getElem?_set_ne (by omega)];exact h.2 j (by omega) hl⟩
theorem OP {α:Type} {l:List α} {p:α→Bool} {i:Nat} (hi:i<l.length):(l.take (i+1)).filter p=(l.take i).filter p++if p l[i]=true then [l[i]] else []:=by
 rw [List.take_succ_eq_append_getElem hi,List.filter_append]
 congr 1
 rw [List.filter_cons,List.filter_nil]
set_option maxHeartbeats 4000000
set_option linter.unusedVariables false
set_option linter.unusedSimpArgs false
attribute [local irreducible] prP gP gE gF AW ixW ldc ldg ldl stc stg scW mkW apW AZ cl2 BJ CH B2
variable {w0:World}
theorem ND {x:Hp} {a b:Int} {K:J2} (hk:BG x) (fa:F64 a) (fb:F64 b) (ha:0≤AA x.AB a) (hb:0≤AA x.AB b) (h:K [.bool (ldB x.AB a b)] []):cl2 ⟨Try.prog,w0⟩ 64 DT.sg [I a,I b] (trees x) K:=by
 have ol8:=hk.ol
 have hof:=(hk.st hk.Y5).of
 obtain ⟨k,ek⟩: ∃k:Nat,AA x.AB a=k:=⟨(AA x.AB a).toNat,by omega⟩
 obtain ⟨m,em⟩: ∃k:Nat,AA x.AB b=k:=⟨(AA x.AB b).toNat,by omega⟩
 have k8:=(HS ek).1
 have hld:=SB hk ek em
 refine DT.cl2 ?_
 unfold DT.txt
 try simp only [trees]
 try simp only [AJ,AO,AS,AN,AQ,AG,AK,AI,AR,AT,AU,AM,AL,AP,BP,BU,BW,BT,BV,BS,BQ,AY,A6,A7,A4,A5,A8]
 refine B5 fa (by omega) (B5 fb (by omega) ?_)
 rw [ek,em]
 have p1: ¬(k:Int)<0:=by omega
 refine BE (B9 (D9 p1 (BE (F8 p1 rfl (HI (by omega) (IT ol8 hof k8 ?_))))))
 have kl:=N7 hof (k:=k) (by omega)
 obtain ⟨ks,hks⟩: ∃ks,BC x.AB k=ks:=⟨_,rfl⟩
 have hkb: ∀j∈ks, ∃i:Nat,j=(i:Int)∧i<8∧(ob x.AB i).live=true:=fun j hj=>by
  rw [←hks] at hj
  have:=BZ hj
  exact ⟨j.toNat,by omega,this.2.1,this.2.2.2.2⟩
 have hrb:RB x.AB (ks.map (idO x.AB)) m↔RB x.AB (ob x.AB k).field m:=by
  rw [QE,hks]
  constructor
  ·rintro ⟨v,hv,s,hs,hr⟩
   obtain ⟨j,hj,rfl⟩:=List.mem_map.1 hv
   obtain ⟨i,rfl,i8,iv'⟩:=hkb j hj
   unfold idO at hs
   rw [Int.toNat_natCast,RJ hk i8 iv'] at hs
   have:i=s:=by omega
   subst this
   exact ⟨i,hj,hr⟩
  ·rintro ⟨j,hj,hr⟩
   obtain ⟨i,e,i8,iv'⟩:=hkb _ hj
   have:j=i:=by omega
   subst this
   refine ⟨idO x.AB (j:Int),List.mem_map.2 ⟨_,hj,rfl⟩,j, ?_,hr⟩
   unfold idO
   rw [Int.toNat_natCast];exact RJ hk i8 iv'
 rw [hks] at kl ⊢
 simp only [AJ,AO,AS,AN,AQ,AG,AK,AI,AR,AT,AU,AM,AL,AP,BP,BU,BW,BT,BV,BS,BQ,AY,A6,A7,A4,A5,A8]
 refine BL (fun i=>[iv m,iv ks.length,iv i]) (fun i=>[tI ((ks.take i).map (idO x.AB)),tI ks]) ks.length (fun _=>True) rfl rfl trivial (fun R i hi _ hR=> ?_)
 have tl:((ks.take i).map (idO x.AB)).length=i:=by rw [List.length_map,List.length_take];omega
 simp only [AJ,AO,AS,AN,AQ,AG,AK,AI,AR,AT,AU,AM,AL,AP,BP,BU,BW,BT,BV,BS,BQ,AY,A6,A7,A4,A5,A8]
 refine BE (BB (fun hlt=> ?_) fun hge=> ?_)
 ·have hlt:i<ks.length:=by omega
  have hR:=hR hlt trivial
  obtain ⟨j,ej,j8,jv⟩:=hkb _ (D6 hlt)
  refine BF hlt (ldI hlt ?_)
  rw [ej]
  refine BF (by omega) (JX (c:=1) (by omega) (by decide) rfl (FO (GH rfl (by first | omega | (simp only [AJ,AO,AS,AN,AQ,AG,AK,AI,AR,AT,AU,AM,AL,AP,BP,BU,BW,BT,BV,BS,BQ,AY,A6,A7,A4,A5,A8];omega)) (A9 (by omega) ?_))))
  rw [List.take_succ_eq_append_getElem hlt,List.map_append,DE hlt,ej] at hR
  have e2:[(j:Int)].map (idO x.AB)=[B6 (j:Int) (ob x.AB j).gen]:=by simp [idO]
  rw [e2, ←F4] at hR
  exact hR
 ·have:i=ks.length:=by omega
  subst this
  rw [List.take_length]
  have il:(ks.map (idO x.AB)).length=ks.length:=by simp
  refine PW (x:=x) (but:= -1) hk.fits hof (fun v hv=> ?_) (by omega) (by omega) ?_
  ·obtain ⟨j,hj,rfl⟩:=List.mem_map.1 hv
   unfold idO
   exact BM (by have:=hH j (ob x.AB j.toNat).gen;omega)
  obtain ⟨q1,q2⟩:=TP x.AB (-1) (ks.map (idO x.AB))
  have ql:=q1.len
  have sl:(slQ (LS x.AB (-1) (ks.map (idO x.AB)))).length=(LS x.AB (-1) (ks.map (idO x.AB))).length:=by simp
  simp only [AJ,AO,AS,AN,AQ,AG,AK,AI,AR,AT,AU,AM,AL,AP,BP,BU,BW,BT,BV,BS,BQ,AY,A6,A7,A4,A5,A8]
  refine FV (x:=(m:Int)) (by omega) ?_
  have e:decide ((m:Int)∈slQ (LS x.AB (-1) (ks.map (idO x.AB))))=ldB x.AB a b:=by
   rw [Bool.eq_iff_iff,decide_eq_true_eq,hld, ←hrb]
   show inQ _ _↔_
   rw [q2 m,rK]
  rw [e];exact h
theorem lC {x:Hp} (hk:BG x) {i:Nat} (hi:i≤(B1 x.AB).length):(IG (muB x.AB) (B1 x.AB) i).2.length≤8∧(IG (muB x.AB) (B1 x.AB) i).1.length≤8:=by
 have h:=Y4 (OQ hk) (cH _) (fun a ha b hb c hc=>aM hk ha hb hc) i hi
 have ll:=KF x.AB
 have:=hk.ol
 have n1:=jA h.nd h.sub
 refine ⟨by omega, ?_⟩
 have hf: ∀{l:List (List Int)},(∀g∈l,0<g.length)→l.length≤l.flatten.length:=fun {l}=>by
  induction l with
  | nil=>intro _;simp
  | cons a l ih=>
    intro h
    have i1:=ih fun g hg=>h g (by simp [hg])
    have:=h a (by simp)
    simp only [List.length_cons,List.flatten_cons,List.length_append];omega
 have:=hf (l:=(IG (muB x.AB) (B1 x.AB) i).1) fun g hg=>by obtain ⟨j,_,_,rfl⟩:=h.form g hg;simp [JZ]
 rw [←h.fl] at this
 omega
theorem WG {x:Hp} {K:J2} (hk:BG x) (h:K [] [tG (VQ x.AB)]):cl2 ⟨Try.prog,w0⟩ 63 FL.sg [] (trees x) K:=by
 have ol8:=hk.ol
 have hll:=fun i hi=>lC hk (i:=i) hi
 have hsl:=fun v hv=>HO hk (v:=v) hv
 have hF: ∀v∈B1 x.AB,F64 v:=fun v hv=>BM (by have:=hk.MO (hsl v hv);omega)
 have ll:=KF x.AB
 refine FL.cl2 ?_
 unfold FL.txt
 try simp only [trees]
 try simp only [AJ,AO,AS,AN,AQ,AG,AK,AI,AR,AT,AU,AM,AL,AP,BP,BU,BW,BT,BV,BS,BQ,AY,A6,A7,A4,A5,A8]
 refine DN (HI (by omega) (I0 (by omega) ?_))
 unfold VQ at h
 have hLd:=fun {a b:Int} {K:J2} (ha:a∈B1 x.AB) (hb:b∈B1 x.AB) (hK:K [.bool (ldB x.AB a b)] [])=>ND (w0:=w0) (K:=K) hk (hF a ha) (hF b hb) (hsl a ha) (hsl b hb) hK
 generalize hm:B1 x.AB=m at h hll hsl hF ll hLd ⊢
 generalize hmu:muB x.AB=mu at h hll ⊢
 have mu_eq: ∀a b,mu a b=(ldB x.AB a b&&ldB x.AB b a):=fun a b=>by rw [←hmu];rfl
 clear hmu
 simp only [AJ,AO,AS,AN,AQ,AG,AK,AI,AR,AT,AU,AM,AL,AP,BP,BU,BW,BT,BV,BS,BQ,AY,A6,A7,A4,A5,A8]
 refine BL (fun i=>[iv m.length,iv i]) (fun i=>[tG (IG mu m i).1,tI (IG mu m i).2,tI m]) m.length (fun _=>True) rfl rfl trivial (fun R i hi _ hR=> ?_)
 obtain ⟨l1,l2⟩:=hll i hi
 simp only [AJ,AO,AS,AN,AQ,AG,AK,AI,AR,AT,AU,AM,AL,AP,BP,BU,BW,BT,BV,BS,BQ,AY,A6,A7,A4,A5,A8]
 refine BE (BB (fun hlt=>DB ?_) fun hge=> ?_)
 ·have hlt:i<m.length:=by omega
  have hR:=hR hlt trivial
  have es:IG mu m (i+1)=if gI m i∈(IG mu m i).2 then IG mu m i else ((IG mu m i).1++[JZ mu m i],(IG mu m i).2++JZ mu m i):=rfl
  rw [es] at hR
  have l3:=(hll (i+1) hlt)
  rw [es] at l3
  generalize IG mu m i=st at hR l1 l2 l3 ⊢
  obtain ⟨out,dn⟩:=st
  simp only at hR l1 l2 l3 ⊢
  refine BF hlt (ldI hlt (FV (by omega) (BB (fun hin=> ?_) fun hin=> ?_)))
  ·rw [if_pos hin] at hR
   exact A9 (by omega) hR
  ·rw [if_neg hin] at hR l3
   simp only [List.length_append] at l3
   refine A9 (by omega) (o4 (by omega) ?_)
   have hda: ∀j,j<m.length-(i+1)→(m.drop (i+1)).length=m.length-(i+1)∧gI (m.drop (i+1)) j=gI m (i+1+j):=fun j hj=>by
    refine ⟨List.length_drop, ?_⟩
    unfold gI
    rw [List.getD_eq_getElem?_getD,List.getElem?_drop, ←List.getD_eq_getElem?_getD]
   have ham:gI m i∈m:=D6 hlt
   refine BL (fun j=>[I (gI m i),iv m.length,iv i,iv (m.length-(i+1)),iv ((i+1)*1),iv (m.length-(i+1)),iv j]) (fun j=>[tG out,tI dn,tI m,tI (gI m i::((m.drop (i+1)).take j).filter (mu (gI m i)))]) (m.length-(i+1)) (fun _=>True) rfl rfl trivial (fun R2 j hj _ hR2=> ?_)
   have fl:((((m.drop (i+1)).take j).filter (mu (gI m i))).length)≤j:=Nat.le_trans (List.length_filter_le _ _) (by rw [List.length_take];omega)
   simp only [AJ,AO,AS,AN,AQ,AG,AK,AI,AR,AT,AU,AM,AL,AP,BP,BU,BW,BT,BV,BS,BQ,AY,A6,A7,A4,A5,A8]
   simp only [BQ,BA]
   refine BE (BB (fun hlj=>DB ?_) fun hgj=> ?_)
   ·have hlj:j<m.length-(i+1):=by omega
    obtain ⟨d1,d2⟩:=hda j hlj
    have hR2:=hR2 hlj trivial
    have hbl:i+1+j<m.length:=by omega
    have hbm:gI m (i+1+j)∈m:=D6 hbl
    have eld: ∀{K:Value→Prop},K (I (gI m (i+1+j)))→ldc (tI m) [] ((i+1)*1+AD (iv j)*1) K:=fun hK=>by
     rw [BA,Nat.mul_one,Nat.mul_one];exact w3 hbl hK
    rw [OP (by rw [d1];exact hlj),DE (by rw [d1];exact hlj),d2,mu_eq] at hR2
    refine BF hlj (eld (hLd ham hbm (B9 (B9 (B9 ?_)))))
    cases e1:ldB x.AB (gI m i) (gI m (i+1+j)) with
    | false=>
      rw [e1] at hR2
      simp only [Bool.false_and,Bool.false_eq_true,if_false,List.append_nil] at hR2
      exact VZ (X8 rfl (C7 (A9 (by omega) hR2)))
    | true=>
      rw [e1] at hR2
      simp only [Bool.true_and] at hR2
      refine bA (hLd hbm ham (lO rfl ?_))
      simp only [BP]
      cases e2:ldB x.AB (gI m (i+1+j)) (gI m i) with
      | false=>
        rw [e2] at hR2
        simp only [Bool.false_eq_true,if_false,List.append_nil] at hR2
        exact C7 (A9 (by omega) hR2)
      | true=>
        rw [e2] at hR2
        simp only [if_true] at hR2
        refine CV (GH rfl (by simp only [List.length_cons,AG,AI] at*;omega) (A9 (by omega) ?_))
        rw [F4]
        exact hR2
   ·have:j=m.length-(i+1):=by omega
    subst this
    have ed:(m.drop (i+1)).take (m.length-(i+1))=m.drop (i+1):=List.take_of_length_le (by rw [List.length_drop];omega)
    rw [ed]
    have eg:gI m i::(m.drop (i+1)).filter (mu (gI m i))=JZ mu m i:=rfl
    have egl:(JZ mu m i).length=(gI m i::(m.drop (i+1)).filter (mu (gI m i))).length:=rfl
    rw [eg]
    refine GH (TT _) (by first | omega | (simp only [AJ,AO,AS,AN,AQ,AG,AK,AI,AR,AT,AU,AM,AL,AP,BP,BU,BW,BT,BV,BS,BQ,AY,A6,A7,A4,A5,A8];omega)) (XC (by rw [LH,List.length_map];first | omega | (simp only [AI];omega)) (A9 (by omega) ?_))
    rw [XZ]
    have e3:tI dn++tI (JZ mu m i)=tI (dn++JZ mu m i):=by simp [tI]
    rw [e3]
    exact hR
 ·have:i=m.length:=by omega
  subst this
  exact h
end Go.Proofs.Ytklmcfpgdfibnaa.P
namespace Go.Proofs.Ytklmcfpgdfibnaa.P
open Go Go.Proofs.Ytklmcfpgdfibnaa Go.Proofs.Ytklmcfpgdfibnaa.Eng
set_option linter.unusedVariables false
set_option maxHeartbeats 4000000
set_option linter.unusedVariables false
set_option linter.unusedSimpArgs false
attribute [local irreducible] prP gP gE gF AW ixW ldc ldg ldl stc stg scW mkW apW AZ cl2 BJ CH B2
variable {w0:World}
theorem YI {x:Hp} {K:J2} (hk:BG x) (h:K [] [tG (b9 x.AB)]):cl2 ⟨Try.prog,w0⟩ 65 GR.sg [] (trees x) K:=by
 have hform:=fun g hg=>SD hk (g:=g) hg
 obtain ⟨gl8,ge8⟩:=bG hk
 have hLd:=fun {a b:Int} {K:J2} (ha:a∈B1 x.AB) (hb:b∈B1 x.AB) (hK:K [.bool (ldB x.AB a b)] [])=>ND (w0:=w0) (K:=K) hk (BM (by have:=hk.MO (HO hk ha);omega)) (BM (by have:=hk.MO (HO hk hb);omega)) (HO hk ha) (HO hk hb) hK
 refine GR.cl2 ?_
 unfold GR.txt
 try simp only [trees]
 try simp only [AJ,AO,AS,AN,AQ,AG,AK,AI,AR,AT,AU,AM,AL,AP,BP,BU,BW,BT,BV,BS,BQ,AY,A6,A7,A4,A5,A8]
 refine WG hk ?_
 unfold b9 at h
 generalize VQ x.AB=l at h hform gl8 ge8 ⊢
 simp only [AJ,AO,AS,AN,AQ,AG,AK,AI,AR,AT,AU,AM,AL,AP,BP,BU,BW,BT,BV,BS,BQ,AY,A6,A7,A4,A5,A8]
 rw [LH,List.length_map]
 refine IX (α:=Nat×List (Option (List Int))) (fun s=>[iv l.length,iv s.1]) (fun s=>[tG ((l.take s.1).filter (isRing x.AB)),tGo s.2]) (fun s=>l.length-s.1) (fun s=>s.1≤l.length∧NF l s.1 s.2) (0,l.map some) rfl rfl ⟨Nat.zero_le _,NF.start l⟩ (fun R s hs hR=> ?_)
 obtain ⟨i,lo⟩:=s
 obtain ⟨hi,hr⟩:=hs
 simp only at hi hr
 have ol:=hr.1
 have fl:((l.take i).filter (isRing x.AB)).length≤i:=Nat.le_trans (List.length_filter_le _ _) (by rw [List.length_take];omega)
 simp only [AJ,AO,AS,AN,AQ,AG,AK,AI,AR,AT,AU,AM,AL,AP,BP,BU,BW,BT,BV,BS,BQ,AY,A6,A7,A4,A5,A8]
 refine BE (BB (fun hlt=>DB ?_) fun hge=> ?_)
 ·have hlt:i<l.length:=by omega
  have ha:=hr.2 i (Nat.le_refl _) hlt
  obtain ⟨g1,g2,g3⟩:=hform _ (eK hlt)
  have g4:=ge8 _ (eK hlt)
  have es:=OP (p:=isRing x.AB) hlt
  rw [e9 hlt] at es
  have h0:=g2 _ (D6 g1)
  refine BF (by rw [LH,ol];exact hlt) (nR ha ?_)
  rw [c9 ha]
  simp only [AG]
  have yes:isRing x.AB (gG l i)=true→mvW (tGo lo) [] (AD (iv i)*1) 1 fun d43 k44=>
    apW [T.l 1 d43] false (cnt 1 (tG ((l.take i).filter (isRing x.AB)))) (cnt 1 [T.l 1 d43]) 24 (
    prP (bnI .add (iv i) (I 1)) fun t33_45=>R [iv l.length,t33_45] [tG ((l.take i).filter (isRing x.AB))++[T.l 1 d43],k44]):=fun hy=>by
   refine tC ha (XC (by rw [LH,List.length_map];first | omega | (simp only [AI];omega)) (A9 (by omega) ?_))
   rw [XZ]
   rw [if_pos hy] at es
   have:=hR (i+1,lo.set i none) ⟨hlt,hr.gone⟩ (by simp only;omega)
   simp only at this
   rw [es] at this
   exact this
  have no:isRing x.AB (gG l i)=false→prP (bnI .add (iv i) (I 1)) fun t33_45=>R [iv l.length,t33_45] [tG ((l.take i).filter (isRing x.AB)),tGo lo]:=fun hy=>by
   rw [hy] at es
   simp only [Bool.false_eq_true,if_false,List.append_nil] at es
   have:=hR (i+1,lo) ⟨hlt,hr.next⟩ (by simp only;omega)
   simp only at this
   rw [es] at this
   exact A9 (by omega) this
  refine RD (B9 (B9 (B9 ?_)))
  by_cases hl1:((gG l i).length:Int)>1
  ·refine J6 hl1 (J6 hl1 (B9 (B9 (J6 hl1 (J6 hl1 (J6 hl1 (HR hl1 rfl (CV ?_))))))))
   exact yes (by unfold isRing;simp;left;omega)
  ·refine D9 hl1 (BF (j:=0) g1 (D9 hl1 (eI ha g1 (B9 (B9 (D9 hl1 (BF (j:=0) g1 (D9 hl1 (eI ha g1 (D9 hl1 (hLd h0 h0 (F8 hl1 rfl ?_))))))))))))
   simp only [BP]
   cases e1:ldB x.AB (gI (gG l i) 0) (gI (gG l i) 0) with
   | true=>exact CV (yes (by unfold isRing;rw [e1];simp))
   | false=>exact C7 (no (by unfold isRing;rw [e1,decide_eq_false (by omega)];rfl))
 ·have:i=l.length:=by omega
  subst this
  rw [List.take_length]
  exact h
theorem q9 {x:Hp} (hk:BG x):(b9 x.AB).length≤8∧ ∀g∈b9 x.AB,0<g.length∧g.length≤8∧ ∀v∈g,v∈B1 x.AB:=by
 obtain ⟨h1,h2⟩:=bG hk
 refine ⟨Nat.le_trans (List.length_filter_le _ _) h1,fun g hg=> ?_⟩
 have hg:=(List.mem_filter.1 hg).1
 obtain ⟨a,b,_⟩:=SD hk hg
 exact ⟨a,h2 g hg,b⟩
theorem MN {x:Hp} {K:J2} (hk:BG x) (h:K [] [tG (SZ x.AB)]):cl2 ⟨Try.prog,w0⟩ 21 DC.sg [] (trees x) K:=by
 obtain ⟨gl8,hform⟩:=q9 hk
 have ll:=KF x.AB
 have ol8:=hk.ol
 have lk:(G5 x.AB).length≤(B1 x.AB).length:=List.length_filter_le _ _
 refine DC.cl2 ?_
 unfold DC.txt
 try simp only [trees]
 try simp only [AJ,AO,AS,AN,AQ,AG,AK,AI,AR,AT,AU,AM,AL,AP,BP,BU,BW,BT,BV,BS,BQ,AY,A6,A7,A4,A5,A8]
 refine LK hk (YI hk ?_)
 unfold SZ at h
 generalize b9 x.AB=l at h hform gl8 ⊢
 generalize G5 x.AB=m at h lk ⊢
 simp only [AJ,AO,AS,AN,AQ,AG,AK,AI,AR,AT,AU,AM,AL,AP,BP,BU,BW,BT,BV,BS,BQ,AY,A6,A7,A4,A5,A8]
 rw [LH,List.length_map]
 refine IX (α:=Nat×List (Option (List Int))) (fun s=>[iv l.length,iv s.1]) (fun s=>[tI m,tG ((l.take s.1).filter fun g=>decide (gI g 0∈m)),tGo s.2]) (fun s=>l.length-s.1) (fun s=>s.1≤l.length∧NF l s.1 s.2) (0,l.map some) rfl rfl ⟨Nat.zero_le _,NF.start l⟩ (fun R s hs hR=> ?_)
 obtain ⟨i,lo⟩:=s
 obtain ⟨hi,hr⟩:=hs
 simp only at hi hr
 have ol:=hr.1
 have fl:((l.take i).filter fun g=>decide (gI g 0∈m)).length≤i:=Nat.le_trans (List.length_filter_le _ _) (by rw [List.length_take];omega)
 simp only [AJ,AO,AS,AN,AQ,AG,AK,AI,AR,AT,AU,AM,AL,AP,BP,BU,BW,BT,BV,BS,BQ,AY,A6,A7,A4,A5,A8]
 refine BE (BB (fun hlt=>DB ?_) fun hge=> ?_)
 ·have hlt:i<l.length:=by omega
  have ha:=hr.2 i (Nat.le_refl _) hlt
  obtain ⟨g1,g4,g2⟩:=hform _ (eK hlt)
  have es:=OP (p:=fun g=>decide (gI g 0∈m)) hlt
  rw [e9 hlt] at es
  refine BF (by rw [LH,ol];exact hlt) (nR ha ?_)
  rw [c9 ha]
  refine BF (j:=0) (by rw [AG];exact g1) (eI ha g1 (FV (by omega) (BB (fun hm=> ?_) fun hm=> ?_)))
  ·rw [if_pos (decide_eq_true hm)] at es
   refine tC ha (XC (by rw [LH,List.length_map];first | omega | (simp only [AI];omega)) (A9 (by omega) ?_))
   rw [XZ]
   have:=hR (i+1,lo.set i none) ⟨hlt,hr.gone⟩ (by simp only;omega)
   simp only at this
   rw [es] at this
   exact this
  ·rw [if_neg (by simpa using hm),List.append_nil] at es
   have:=hR (i+1,lo) ⟨hlt,hr.next⟩ (by simp only;omega)
   simp only at this
   rw [es] at this
   exact A9 (by omega) this
 ·have:i=l.length:=by omega
  subst this
  rw [List.take_length]
  exact h
end Go.Proofs.Ytklmcfpgdfibnaa.P
namespace Go.Proofs.Ytklmcfpgdfibnaa.P
open Go Go.Proofs.Ytklmcfpgdfibnaa Go.Proofs.Ytklmcfpgdfibnaa.Eng
set_option linter.unusedVariables false
set_option maxHeartbeats 4000000
set_option linter.unusedVariables false
set_option linter.unusedSimpArgs false
attribute [local irreducible] prP gP gE gF AW ixW ldc ldg ldl stc stg scW mkW apW AZ cl2 BJ CH B2
variable {w0:World}
end Go.Proofs.Ytklmcfpgdfibnaa.P
