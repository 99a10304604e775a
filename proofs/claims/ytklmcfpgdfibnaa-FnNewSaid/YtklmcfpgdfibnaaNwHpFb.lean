/- A part of the proof. -/
import Derived.Test.YtklmcfpgdfibnaaNwPlA
namespace Go.Proofs.Ytklmcfpgdfibnaa.P
open Go Go.Proofs.Ytklmcfpgdfibnaa Go.Proofs.Ytklmcfpgdfibnaa.Eng
set_option linter.unusedVariables false
structure NV (os0 os:List AU) (freed:List Int):Prop where
 l0:os0.length=8
 len:os.length=8
 gn: ∀i,i<8→(ob os i).gen=(ob os0 i).gen
 sm: ∀i,i<8→(ob os i).live=true→(ob os0 i).live=true∧(ob os i).site=(ob os0 i).site∧(ob os i).holds=(ob os0 i).holds∧(ob os i).roots=(ob os0 i).roots∧(ob os i).field=(ob os0 i).field
 dd: ∀i,i<8→(ob os i).live=false→(ob os0 i).live=true→ob os i=B4 (ob os0 i).gen
 d0: ∀i,i<8→(ob os0 i).live=false→ob os i=ob os0 i
 fr: ∀x,x∈freed↔0≤AB os0 x∧AB os x<0
 nd:freed.Nodup
 ct:lvs os+freed.length=lvs os0
theorem NV.refl {os:List AU} (h:os.length=8):NV os os []:=⟨h,h,fun _ _=>rfl,fun i _ hv=>⟨hv,rfl,rfl,rfl,rfl⟩,fun i _ h1 h2=>(by rw [h1] at h2;cases h2),fun _ _ _=>rfl,fun x=>⟨fun hx=>(by simp at hx),fun ⟨a,b⟩=>by omega⟩,List.nodup_nil,by simp⟩
theorem NV.dec {os0 os:List AU} {freed:List Int} {k:Nat} {v:AU} (h:NV os0 os freed) (hk:k<8) (kv:(ob os k).live=true) (v1:v.live=true) (v2:v.gen=(ob os k).gen) (v3:v.site=(ob os k).site) (v4:v.holds=(ob os k).holds) (v5:v.roots=(ob os k).roots) (v6:v.field=(ob os k).field):NV os0 (os.set k v) freed:=by
 have hl:=h.len
 have eo: ∀i,ob (os.set k v) i=if i=k then v else ob os i:=fun i=>FQ (by omega)
 have sl: ∀x,AB (os.set k v) x=AB os x:=fun x=>GC (by simp) fun i _=>by
  rw [eo];split
  ·rename_i he;subst he;exact ⟨by rw [v1,kv],v2⟩
  ·exact ⟨rfl,rfl⟩
 refine ⟨h.l0,by simp [hl],fun i hi=> ?_,fun i hi hv=> ?_,fun i hi hv=> ?_,fun i hi hv=> ?_,fun x=>by rw [sl];exact h.fr x,h.nd, ?_⟩
 ·rw [eo];split
  ·rename_i he;subst he;rw [v2];exact h.gn i hi
  ·exact h.gn i hi
 ·rw [eo] at hv ⊢
  by_cases he:i=k
  ·subst he
   rw [if_pos rfl,v3,v4,v5,v6]
   exact h.sm i hi kv
  ·rw [if_neg he] at hv ⊢;exact h.sm i hi hv
 ·rw [eo] at hv ⊢
  by_cases he:i=k
  ·rw [if_pos he,v1] at hv;cases hv
  ·rw [if_neg he] at hv ⊢;exact h.dd i hi hv
 ·rw [eo]
  by_cases he:i=k
  ·subst he
   have:=(h.sm i hi kv).1
   rw [hv] at this;cases this
  ·rw [if_neg he];exact h.d0 i hi hv
 ·have:=TT (os:=os) (k:=k) (by omega) kv v
  rw [v1,if_pos rfl] at this
  have:=h.ct;omega
theorem NV.free {os0 os:List AU} {freed:List Int} {k:Nat} {id:Int} (h:NV os0 os freed) (hk:AB os id=(k:Int)):NV os0 (os.set k (B4 (ob os k).gen)) (freed++[id]):=by
 have hl:=h.len
 have hb:=BN (l:=os) (id:=id) (by omega)
 have ek:(AB os id).toNat=k:=by omega
 rw [ek] at hb
 obtain ⟨_,b1,b2,k8,kv,kg⟩:=hb
 have eo: ∀i,ob (os.set k (B4 (ob os k).gen)) i=if i=k then B4 (ob os k).gen else ob os i:=fun i=>FQ (by omega)
 have s0:AB os0 id=(k:Int):=by
  have e:(id % 8).toNat=k:=by omega
  rw [JQ (by omega) h.l0 (by have:=h.l0;omega) (by rw [e];exact (h.sm k k8 kv).1) (by rw [e, ←h.gn k k8];exact kg)]
  omega
 have sx: ∀x,AB (os.set k (B4 (ob os k).gen)) x=if x=id then -1 else AB os x:=fun x=>by
  by_cases hx:x=id
  ·subst hx
   rw [if_pos rfl]
   have e:(x % 8).toNat=k:=by omega
   exact HS (by simp only [List.length_set];omega) (.inl (by rw [e,eo,if_pos rfl];rfl))
  ·rw [if_neg hx]
   by_cases h8:x<8∨os.length≠8
   ·rw [HF h8,HF (by simpa using h8)]
   ·have hln:(x % 8).toNat<os.length:=by omega
    by_cases he:(x % 8).toNat=k
    ·have hg:(ob os (x % 8).toNat).gen≠x/8:=fun hg=>hx (by rw [he,kg] at hg;omega)
     rw [HS hln (.inr hg),HS (by simpa using hln) (.inl (by rw [he,eo,if_pos rfl];rfl))]
    ·unfold AB
     rw [if_neg h8,if_neg (by simpa using h8),eo,if_neg he]
 refine ⟨h.l0,by simp [hl],fun i hi=> ?_,fun i hi hv=> ?_,fun i hi hv h0=> ?_,fun i hi hv=> ?_,fun x=> ?_, ?_, ?_⟩
 ·rw [eo];split
  ·rename_i he;subst he;exact h.gn i hi
  ·exact h.gn i hi
 ·rw [eo] at hv ⊢
  by_cases he:i=k
  ·rw [if_pos he] at hv;cases hv
  ·rw [if_neg he] at hv ⊢;exact h.sm i hi hv
 ·rw [eo] at hv ⊢
  by_cases he:i=k
  ·subst he;rw [if_pos rfl,h.gn i hi]
  ·rw [if_neg he] at hv ⊢;exact h.dd i hi hv h0
 ·rw [eo]
  by_cases he:i=k
  ·subst he
   have:=(h.sm i hi kv).1
   rw [hv] at this;cases this
  ·rw [if_neg he];exact h.d0 i hi hv
 ·rw [List.mem_append,List.mem_singleton,h.fr,sx]
  by_cases hx:x=id
  ·subst hx
   rw [if_pos rfl]
   exact ⟨fun _=>⟨by omega,by omega⟩,fun _=> .inr rfl⟩
  ·rw [if_neg hx]
   exact ⟨fun hh=>hh.resolve_right hx, .inl⟩
 ·refine List.nodup_append.2 ⟨h.nd,by simp,fun a ha b hb'=> ?_⟩
  rw [List.mem_singleton.1 hb']
  rintro rfl
  have:=((h.fr a).1 ha).2
  omega
 ·have:=TT (os:=os) (k:=k) (by omega) kv (B4 (ob os k).gen)
  rw [if_neg (by simp [B4])] at this
  have:=h.ct
  rw [List.length_append,List.length_singleton];omega
theorem oT {ns:Nat} {os0:List AU}: ∀(f:Nat) {os:List AU} {buf todo freed:List Int},HP os ns buf todo→freed.length+lvs os≤8→todo.length+4*lvs os<f→NV os0 os freed→NV os0 (JJ f os buf freed todo).1 (JJ f os buf freed todo).2.2:=by
 intro f
 induction f with
 | zero=>intro os buf todo freed _ _ h;omega
 | succ f ih=>
   intro os buf todo freed h h8 hf hR
   cases todo with
   | nil=>exact hR
   | cons id pd=>
     have hs:=h.pd id (by simp)
     obtain ⟨k,hk⟩: ∃k:Nat,AB os id=(k:Int):=⟨(AB os id).toNat,by omega⟩
     obtain ⟨k8,kv,kid,kg1,kg2,kid8,kc,kc1,kF⟩:=h.at hk
     have hkl:k<os.length:=by have:=h.ol;omega
     simp only [JJ,hk,Int.toNat_natCast]
     rw [if_neg (by omega),if_neg (by omega)]
     have ew:w64 ((ob os k).count-1)=(ob os k).count-1:=KF ⟨by omega,by have:=kF.2;omega⟩
     rw [ew]
     have lset:=TT hkl kv
     have lvd: ∀v:AU,v.live=true→lvs (os.set k v)=lvs os:=fun v hv=>by
      have:=lset v
      rw [if_pos hv] at this;omega
     simp only [List.length_cons] at hf
     by_cases hc:(ob os k).count-1>0
     ·rw [if_pos hc]
      have hpk:=((h.obj k k8).lv kv).2.2.2.2.2.2
      rw [←kid] at hpk
      by_cases hp:(ob os k).purple=true
      ·rw [if_pos hp]
       exact ih (h.dec hk rfl rfl rfl rfl rfl rfl rfl (by simp only;omega) (fun x _=>Iff.rfl) hpk h.bnd) (by rw [lvd] <;> first | omega | exact kv) (by rw [lvd] <;> first | omega | exact kv) (hR.dec k8 kv kv rfl rfl rfl rfl rfl)
      ·rw [if_neg hp]
       have hni:id∉buf:=fun hm=>hp (hpk.2 hm)
       exact ih (h.dec hk rfl rfl rfl rfl rfl rfl rfl (by simp only;omega) (fun x hx=>by simp [hx]) (by simp) (List.nodup_append.2 ⟨h.bnd,by simp,fun a ha b hb=>by
        have hb:b=id:=by simpa using hb
        subst hb;intro he;exact hni (he ▸ ha)⟩)) (by rw [lvd] <;> first | omega | exact kv) (by rw [lvd] <;> first | omega | exact kv) (hR.dec k8 kv kv rfl rfl rfl rfl rfl)
     ·rw [if_neg hc]
      have hl:=lset (B4 (ob os k).gen)
      rw [if_neg (by simp [B4])] at hl
      have hfl:=List.length_filter_le (fun x=>decide (0≤x)) (ob os k).field
      rw [(h.obj k k8).len] at hfl
      exact ih (h.free hk (by omega)) (by rw [List.length_append,List.length_singleton];omega) (by rw [List.length_append];omega) (hR.free hk)
theorem gK {ns:Nat} {os:List AU} {buf:List Int} {x:Int} (h:HP os ns buf [x]):NV os (HD os buf [x]).1 (HD os buf [x]).2.2:=by
 have hol:=h.ol
 have:=dN hol
 exact oT _ h (by simp only [List.length_nil];omega) (by simp only [List.length_singleton];omega) (NV.refl hol)
end Go.Proofs.Ytklmcfpgdfibnaa.P
namespace Go.Proofs.Ytklmcfpgdfibnaa.P
open Go Go.Proofs.Ytklmcfpgdfibnaa Go.Proofs.Ytklmcfpgdfibnaa.Eng
set_option linter.unusedVariables false
theorem o9 (s g:Int): -1≤CM s g∧CM s g≤7999:=by unfold CM;split <;> omega
structure bQ (h:Hp) (r:Hp×An):Prop where
 code:0≤r.2.code∧r.2.code≤6
 val: -1≤r.2.val∧r.2.val≤7999
 ref:r.2.code≠0→r.1=h∧r.2.freed=[]
 fr: ∀x∈r.2.freed,0≤AB h.BB x∧AB r.1.BB x<0
 nd:r.2.freed.Nodup
 len:r.2.freed.length≤8
theorem bQ.plain {h h':Hp} {c v:Int} (hc:0≤c∧c≤6) (hv: -1≤v∧v≤7999) (hr:c≠0→h'=h):bQ h (h',⟨c,v,[]⟩):=⟨hc,hv,fun hh=>⟨hr hh,rfl⟩,by simp,List.nodup_nil,by simp⟩
theorem O0.slot {a b:List AU} (h:O0 a b) (x:Int):AB b x=AB a x:=GC h.1 fun i _=>⟨(h.2 i).1,(h.2 i).2.1⟩
theorem Mid.step {h:Hp} {r:List AU×List Int×An} (m:Mid h.BB h.sites.length h.buffer r):bQ h (⟨r.1,h.CA,r.2.1,h.sites⟩,r.2.2):=by
 rcases m with ⟨c,hc,rfl⟩ | ⟨os1,h1,_,_,rfl⟩ | ⟨os1,x,h1,hs,_,rfl⟩
 ·exact bQ.plain ⟨by omega,by omega⟩ (by omega) fun _=>rfl
 ·exact bQ.plain (by decide) (by omega) fun hh=>absurd rfl hh
 ·have R:=gK h1
  have h8:=dN h1.ol
  have hct:=R.ct
  refine ⟨⟨by simp [Q5],by simp [Q5]⟩,⟨by simp [Q5],by simp [Q5]⟩,fun hh=>absurd rfl hh,fun x hx=> ?_,R.nd,by simp only [Q5];omega⟩
  obtain ⟨a,b⟩:=(R.fr x).1 hx
  rw [hs.slot] at a
  exact ⟨a,b⟩
end Go.Proofs.Ytklmcfpgdfibnaa.P
