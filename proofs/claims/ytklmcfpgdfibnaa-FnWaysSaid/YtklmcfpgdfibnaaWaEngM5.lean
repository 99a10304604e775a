/- A part of the proof. -/
import Derived.Test.YtklmcfpgdfibnaaWaEngM4
import Derived.Test.YtklmcfpgdfibnaaWaEngM2
namespace Go.Proofs.Ytklmcfpgdfibnaa.Eng
open Go Go.RowKit
set_option linter.unusedVariables false
set_option linter.unusedSimpArgs false
set_option linter.constructorNameAsVariable false
theorem OR {s:St} {o:Bool} {cs:List T} {h b:Nat} {F:List Nat} (hw:Win s o cs h b F):h∈F:=by
 obtain ⟨_,_,_,_,_,_,rfl⟩:=hw;simp
theorem lP {B:Bas} {ro:List (List T)} {m:Mst} (hm:Mem B ro m) {x:E0} {u:Value} {k h:Nat} (hx:E0R ro m x u) (hk:DX x=[k]) (hkn:KV ro m.ob x=true) (hh:handle u=some h):h∈(m.A k).F∧(I2 x=true→h=(m.A k).h):=by
 cases x <;> simp only [DX,List.cons.injEq,and_true,reduceCtorEq] at hk
 ·subst hk
  rename_i k off
  simp only [KV] at hkn
  split at hkn
  ·rename_i xs hl
   have:=hx.2.2 xs hl
   subst this
   simp only [pt,handle,Option.some.injEq] at hh
   subst hh
   obtain ⟨hF,_⟩:=hm.obr k _ hl
   exact ⟨by rw [hF];simp,fun _=>rfl⟩
  ·cases hkn
 ·subst hk
  rename_i k pre off
  simp only [KV] at hkn
  split at hkn
  ·rename_i own cs hl
   obtain ⟨ds,h',b,F,h1,h2,h3,rfl,hw,hF⟩:=PD hm hx hl
   simp only [pt,handle,Option.some.injEq] at hh
   subst hh
   refine ⟨hF.subset (OR hw),fun hfl=> ?_⟩
   cases pre with
   | nil=>simp only [spot,Option.some.injEq,Prod.mk.injEq] at h3;exact h3.1.symm
   | cons i r=>simp [I2] at hfl
  ·cases hkn
 ·subst hk
  rename_i k pre off n e
  simp only [KV] at hkn
  split at hkn
  ·rename_i own cs hl
   obtain ⟨_,_,hx⟩:=hx
   rcases hx own cs hl with ⟨rfl,_⟩ | ⟨ds,h',b,h1,h2,h3,h4,rfl⟩
   ·simp [nl,handle] at hh
   ·obtain ⟨F,hw,hF⟩:=hm.node hl h3 h1 h4
    simp only [sl,handle,Option.some.injEq] at hh
    subst hh
    refine ⟨hF.subset (OR hw),fun hfl=> ?_⟩
    cases pre with
    | nil=>simp only [spot,Option.some.injEq,Prod.mk.injEq] at h4;exact h4.1.symm
    | cons i r=>simp [I2] at hfl
  ·cases hkn
 ·subst hk
  rename_i k e
  simp only [KV] at hkn
  split at hkn
  ·rename_i own cs hl
   obtain ⟨_,_,_,hx⟩:=hx
   rcases hx own cs hl with ⟨rfl,_⟩ | ⟨n,h3,h4,rfl⟩
   ·simp [nl,handle] at hh
   ·simp only [sl,handle,Option.some.injEq] at hh
    subst hh
    obtain ⟨F,hw,hF⟩:=hm.node hl h3 (pre:=[]) rfl rfl
    exact ⟨hF.subset (OR hw),fun _=>rfl⟩
  ·cases hkn
 ·subst hk
  rename_i k pre e
  simp only [KV] at hkn
  split at hkn
  ·rename_i own cs hl
   obtain ⟨_,_,_,hx⟩:=hx
   obtain ⟨ds,h1,hx⟩:=hx own cs hl
   rcases hx with ⟨rfl,_⟩ | ⟨n,h',b,h3,h4,h5,rfl⟩
   ·simp [nl,handle] at hh
   ·obtain ⟨F,hw,hF⟩:=hm.node hl h3 h1 h4
    simp only [sl,handle,Option.some.injEq] at hh
    subst hh
    refine ⟨hF.subset (OR hw),fun hfl=> ?_⟩
    cases pre with
    | nil=>simp only [spot,Option.some.injEq,Prod.mk.injEq] at h4;exact h4.1.symm
    | cons i r=>simp [I2] at hfl
  ·cases hkn
 ·subst hk
  rename_i k off n j
  simp only [KV] at hkn
  split at hkn
  ·rename_i xs hl
   obtain ⟨i,_,_,hp⟩:=dW hx
   have:=hp.2.2 xs hl
   subst this
   simp only [pt,handle,Option.some.injEq] at hh
   subst hh
   obtain ⟨hF,_⟩:=hm.obr k _ hl
   exact ⟨by rw [hF];simp,fun _=>rfl⟩
  ·cases hkn
theorem VI {ro:List (List T)} {ob:Obs} {x:E0} {k:Nat} (hk:DX x=[k]) (h:KV ro ob x=true): ∃o,AV ro ob k=some o:=by
 cases x <;> simp only [DX,List.cons.injEq,and_true,reduceCtorEq] at hk <;> subst hk <;> simp only [KV] at h <;> split at h <;> first | exact ⟨_,by assumption⟩ | cases h
theorem UJ {ro:List (List T)} {m:Mst} {x:E0} {u:Value} {s s':St} (hx:E0R ro m x u) (hp:YV x=true):MS u s s':=by
 intro h hh
 cases x <;> simp [YV] at hp
 ·obtain ⟨rfl,hp⟩:=hx
  cases u <;> simp [plain] at hp <;> simp [handle] at hh
 ·have:u=nl:=hx
  subst this;simp [nl,handle] at hh
def PR (R:E0→Value→Prop) (e:EV) (w:Value):Prop:=EVR R e w∨w=undef
theorem VK {s s':St}:MS undef s s':=fun h hh=>by simp [undef,handle] at hh
theorem tH {B:Bas} {ro:List (List T)} {m m':Mst} {aff kl:List Nat} {e:EV} {w:Value} (hm:Mem B ro m) (hn:Nx2 ro m aff kl m') (hw:PR (E0R ro m) e w) (h:nU ro m.ob aff e=true):MS w m.s m'.s:=by
 rcases hw with hw | rfl
 ·cases e with
  | o x=>
    simp only [nU,Bool.or_eq_true] at h
    rcases h with h | h
    ·exact UJ hw h
    ·split at h
     ·rename_i k hk
      simp only [Bool.and_eq_true,Bool.not_eq_true'] at h
      obtain ⟨o,ho⟩:=VI hk h.1
      intro y hy
      exact hn.afr k o ho h.2 y (lP hm hw hk h.1 hy).1
     ·cases h
  | g xs=>simp [nU] at h
  | u ys=>simp [nU] at h
 ·exact VK
theorem SR: ∀{ro:List (List T)} {k:Nat},k<ro.length→ ∃o,PJ ro k=some o
 | [],k,h=>by simp at h
 | c::r,0,h=>⟨_,rfl⟩
 | c::r,k+1,h=>by simp only [PJ];exact SR (by simpa using h)
def TB (ro:List (List T)) (m:Mst) (ids:List Nat) (a b:St):Prop:= ∀k∈ids,k<m.nk∧ ∀o,AV ro m.ob k=some o→((m.A k).h∈(m.A k).F→b.get (m.A k).h=a.get (m.A k).h)∧(k<ro.length→ ∀h∈(m.A k).F,b.get h=a.get h)
theorem sX {B:Bas} {ro:List (List T)} {m:Mst} {ids:List Nat} {a b:St} {e:EV} {w:Value} (hm:Mem B ro m) (hp:TB ro m ids a b) (hw:PR (E0R ro m) e w) (h:mF ro m.ob ids e=true):MS w a b:=by
 rcases hw with hw | rfl
 ·cases e with
  | o x=>
    simp only [mF,Bool.or_eq_true] at h
    rcases h with h | h
    ·exact UJ hw h
    ·split at h
     ·rename_i k hk
      simp only [Bool.and_eq_true,Bool.or_eq_true] at h
      obtain ⟨o,ho⟩:=VI hk h.1.1
      obtain ⟨k',hk',he⟩:=List.any_eq_true.1 h.1.2
      have:=Nat.eq_of_beq_eq_true he
      subst this
      obtain ⟨h1,h2⟩:=(hp k hk').2 o ho
      intro y hy
      obtain ⟨g1,g2⟩:=lP hm hw hk h.1.1 hy
      rcases h.2 with hf | hf
      ·rw [g2 hf];exact h1 (by rw [←g2 hf];exact g1)
      ·exact h2 (Nat.le_of_ble_eq_true hf) y g1
     ·cases h
  | g xs=>simp [mF] at h
  | u ys=>simp [mF] at h
 ·exact VK
theorem TB.next {B:Bas} {ro:List (List T)} {m m':Mst} {aff kl ids:List Nat} {a b:St} (hm:Mem B ro m) (hm':Mem B ro m') (hn:Nx2 ro m aff kl m') (h:TB ro m ids a b):TB ro m' ids a b:=by
 intro k hk
 obtain ⟨h1,h2⟩:=h k hk
 refine ⟨Nat.lt_of_lt_of_le h1 hn.kp.nk,fun o' ho'=> ?_⟩
 have hk0:=hn.kp.k0 k h1 o' ho'
 refine ⟨fun hmem=> ?_,fun hro y hy=> ?_⟩
 ·cases o' with
  | bx xs'=>
    obtain ⟨⟨xs,hl⟩,he⟩:=hk0
    obtain ⟨hF,_⟩:=hm.obr k _ hl
    rw [he];exact (h2 _ hl).1 (by rw [hF];simp)
  | ls own' cs'=>
    obtain ⟨own,cs,hl,_,g1,g2,_⟩:=hk0
    rw [g2]
    refine (h2 _ hl).1 ?_
    rcases hm'.obr k _ ho' with ⟨_,_,hF⟩ | ⟨hnil,_⟩
    ·rw [hF] at hmem;simp at hmem
    ·rcases hm.obr k _ hl with ⟨hh,_⟩ | ⟨_,hw⟩
     ·rw [g1,hh] at hnil;cases hnil
     ·exact OR hw
 ·rw [hn.agr k hro] at hy
  have: ∃o,AV ro m.ob k=some o:=by
   rw [KR hm.kok hro];exact SR hro
  obtain ⟨o,ho⟩:=this
  exact (h2 o ho).2 hro y hy
def RV (R:E0→Value→Prop):List (Nat×EV)→List (Nat×Value)→Prop
 | [],[]=>True
 | (i,e)::p,(j,w)::q=>i=j∧PR R e w∧RV R p q
 | _,_=>False
def PU (ro:List (List T)) (m:Mst):List (Nat×List Nat)→List (Nat×St×St)→Prop
 | [],[]=>True
 | (i,ids)::p,(j,a,b)::q=>i=j∧TB ro m ids a b∧PU ro m p q
 | _,_=>False
theorem RV.CV {R:E0→Value→Prop} {L:List Nat} {i:Nat}: ∀{p:List (Nat×EV)} {q:List (Nat×Value)},RV R p q→ ∀w∈CV L i q, ∃e∈Eng.CV L i p,PR R e w
 | [],[],_,w,hw=>by simp [Eng.CV] at hw
 | (a,e)::p,(b,v)::q,h,w,hw=>by
   obtain ⟨rfl,h1,h2⟩:=h
   simp only [Eng.CV] at hw ⊢
   cases hu:G7 L i a with
   | true=>
     rw [hu] at hw
     simp only [List.mem_cons] at hw ⊢
     rcases hw with rfl | hw
     ·exact ⟨e, .inl rfl,h1⟩
     ·obtain ⟨e',he,hp⟩:=RV.CV h2 w hw;exact ⟨e', .inr he,hp⟩
   | false=>rw [hu] at hw;exact RV.CV h2 w hw
 | [],_::_,h,_,_=>h.elim
 | _::_,[],h,_,_=>h.elim
theorem PU.CV {ro:List (List T)} {m:Mst} {L:List Nat} {i:Nat}: ∀{p:List (Nat×List Nat)} {q:List (Nat×St×St)},PU ro m p q→ ∀x∈CV L i q, ∃ids∈Eng.CV L i p,TB ro m ids x.1 x.2
 | [],[],_,w,hw=>by simp [Eng.CV] at hw
 | (a,ids)::p,(b,x,y)::q,h,w,hw=>by
   obtain ⟨rfl,h1,h2⟩:=h
   simp only [Eng.CV] at hw ⊢
   cases hu:G7 L i a with
   | true=>
     rw [hu] at hw
     simp only [List.mem_cons] at hw ⊢
     rcases hw with rfl | hw
     ·exact ⟨ids, .inl rfl,h1⟩
     ·obtain ⟨e',he,hp⟩:=PU.CV h2 w hw;exact ⟨e', .inr he,hp⟩
   | false=>rw [hu] at hw;exact PU.CV h2 w hw
 | [],_::_,h,_,_=>h.elim
 | _::_,[],h,_,_=>h.elim
theorem RV.next {ro:List (List T)} {m m':Mst} {aff kl:List Nat} (hn:Nx2 ro m aff kl m'): ∀{p:List (Nat×EV)} {q:List (Nat×Value)},RV (E0R ro m) p q→RV (E0R ro m') (M4 kl p) q:=by
 have hkp: ∀(p:List (Nat×EV)),M4 kl p=p.map fun x=>(x.1,H8 kl x.2):=fun p=>by
  cases kl with
  | nil=>simp [M4,XU]
  | cons a l=>rfl
 intro p q h
 rw [hkp]
 induction p generalizing q with
 | nil=>cases q with
   | nil=>trivial
   | cons _ _=>exact h.elim
 | cons x p ih=>cases q with
   | nil=>obtain ⟨_,_⟩:=x;exact h.elim
   | cons y q=>
     obtain ⟨a,e⟩:=x;obtain ⟨b,w⟩:=y
     obtain ⟨h1,h2,h3⟩:=h
     exact ⟨h1,h2.imp (fun hh=>hn.kp.ev hh) id,ih h3⟩
theorem PU.next {B:Bas} {ro:List (List T)} {m m':Mst} {aff kl:List Nat} (hm:Mem B ro m) (hm':Mem B ro m') (hn:Nx2 ro m aff kl m'): ∀{p:List (Nat×List Nat)} {q:List (Nat×St×St)},PU ro m p q→PU ro m' p q
 | [],[],_=>trivial
 | (a,ids)::p,(b,x,y)::q,h=>⟨h.1,h.2.1.next hm hm' hn,PU.next hm hm' hn h.2.2⟩
 | [],_::_,h=>h.elim
 | _::_,[],h=>h.elim
theorem fY: ∀{n k:Nat},k∈YJ n→k<n
 | n+1,k,h=>by
   simp only [YJ,List.mem_cons] at h
   rcases h with rfl | h
   ·omega
   ·have:=fY h;omega
theorem nG {B:Bas} {ro:List (List T)} {m m':Mst} {aff kl:List Nat} (hm:Mem B ro m) (hm':Mem B ro m') (hn:Nx2 ro m aff kl m'):TB ro m' (aM ro m.ob aff) m.s m'.s:=by
 have:TB ro m (aM ro m.ob aff) m.s m'.s:=by
  intro k hk
  simp only [aM,List.mem_filter,List.mem_append,List.mem_map,Bool.not_eq_true'] at hk
  refine ⟨?_,fun o ho=>⟨fun hmem=>hn.afr k o ho hk.2 _ hmem,fun _ h hh=>hn.afr k o ho hk.2 h hh⟩⟩
  rcases hk.1 with ⟨x,hx,rfl⟩ | h
  ·exact (hm.kok.lt x hx).2
  ·exact Nat.lt_of_lt_of_le (fY h) hm.kok.ro
 exact this.next hm hm' hn
theorem vT {ro:List (List T)} {m:Mst} {env:DR} {env1:Env} {av:List (Nat×Bool)} (hE:HS ro m env env1) (x:Operand):PR (E0R ro m) (ev2 av env x) (ev env1 x):=by
 cases x with
 | tmp t=>
   have:=hE t
   unfold UP at this
   simp only [ev2,ev,tkE]
   cases hx:(lkE env t).1 with
   | none=>rw [hx] at this;exact .inl this
   | some gw=>
     obtain ⟨g,w⟩:=gw
     rw [hx] at this
     simp only
     cases hmm:PM av g w with
     | true=>
       rcases this.2.2 with h | h
       ·exact .inl (this.1 h)
       ·exact .inr h
     | false=>exact .inl (m5 this.2.1)
 | const v=>exact .inl (W8 v)
 | _=>exact .inl trivial
theorem tT {C:Ctx} {env1:Env} {o:Oper} {st:Stp} (h:BC C.P env1 o=some st):match fL C o with
  | .rd=> ∃g x,st= .rd (ev env1 x) g∧ ∀av env,wOf av env o=ev2 av env x
  | .al=> ∃g,st= .al g
  | .no=>(∃v,st= .val v)∨ ∃r,st= .pure r
  | .mu=>(∃g,st= .mu g)∨ ∃f as,st= .call f as:=by
 obtain ⟨dst,op,type,pos,after,guard⟩:=o
 cases op
 case move x=>simp only [BC,Option.some.injEq] at h;subst h;exact .inl ⟨_,rfl⟩
 case assign x=>simp only [BC,Option.some.injEq] at h;subst h;exact .inl ⟨_,rfl⟩
 case pick c a b=>simp only [BC,Option.some.injEq] at h;subst h;exact .inr ⟨_,rfl⟩
 case alloc t=>
  simp only [BC,Option.map_eq_some_iff] at h
  obtain ⟨z,hz,rfl⟩:=h
  exact ⟨_,rfl⟩
 case box t x=>simp only [BC,Option.some.injEq] at h;subst h;exact ⟨_,rfl⟩
 case build t parts=>
  simp only [BC,Option.bind_eq_some_iff] at h
  obtain ⟨z,hz,h⟩:=h
  split at h
  ·split at h
   ·simp only [Option.map_eq_some_iff] at h
    obtain ⟨_,_,rfl⟩:=h
    exact .inr ⟨_,rfl⟩
   ·cases h
  ·simp only [Option.map_eq_some_iff] at h
   obtain ⟨_,_,rfl⟩:=h
   exact .inr ⟨_,rfl⟩
  ·cases h
 case buildSlice t len parts=>
  simp only [BC] at h
  split at h
  ·simp only [Option.bind_eq_some_iff] at h
   obtain ⟨z,hz,h⟩:=h
   split at h
   ·cases h;exact ⟨_,rfl⟩
   ·cases h
  ·cases h
 case load t x=>
  simp only [BC,Option.bind_eq_some_iff,Option.map_eq_some_iff] at h
  obtain ⟨_,_,_,_,rfl⟩:=h
  exact ⟨_,x,rfl,fun av env=>rfl⟩
 case store t x v=>
  simp only [BC,Option.map_eq_some_iff] at h
  obtain ⟨_,_,rfl⟩:=h
  exact .inl ⟨_,rfl⟩
 case nilCheck x=>simp only [BC,Option.some.injEq] at h;subst h;exact .inr ⟨_,rfl⟩
 case fieldAddr t x i=>
  simp only [BC] at h
  split at h
  ·simp only [Option.bind_eq_some_iff] at h
   obtain ⟨_,_,_,_,h⟩:=h
   split at h
   ·cases h
   ·cases h;exact .inr ⟨_,rfl⟩
  ·cases h
 case binOp op t x y z=>
  simp only [BC] at h
  split at h <;> first | (cases h;exact .inr ⟨_,rfl⟩) | cases h
 case unOp op t x=>simp only [BC,Option.some.injEq] at h;subst h;exact .inr ⟨_,rfl⟩
 case convert src dst' x=>
  simp only [BC] at h
  split at h
  ·rename_i hu _
   cases h
   simp only [fL,hu]
   exact .inr ⟨_,rfl⟩
  ·rename_i hu _
   split at h
   ·cases h
    simp only [fL,hu]
    exact ⟨_,x,rfl,fun av env=>rfl⟩
   ·cases h
  ·cases h
 case makeSlice t l c=>
  simp only [BC] at h
  split at h
  ·simp only [Option.bind_eq_some_iff] at h
   obtain ⟨z,hz,h⟩:=h
   split at h
   ·cases h;exact ⟨_,rfl⟩
   ·cases h
  ·cases h
 case slice t x lo hi mx=>
  cases mx with
  | some mx=>simp [BC] at h
  | none=>
    simp only [BC] at h
    split at h
    ·cases h;exact .inr ⟨_,rfl⟩
    ·simp only [Option.map_eq_some_iff] at h
     obtain ⟨_,_,rfl⟩:=h
     exact .inr ⟨_,rfl⟩
    ·cases h
 case indexAddr t x i=>
  simp only [BC] at h
  split at h
  ·simp only [Option.map_eq_some_iff] at h
   obtain ⟨_,_,rfl⟩:=h
   exact .inr ⟨_,rfl⟩
  ·simp only [Option.map_eq_some_iff] at h
   obtain ⟨_,_,rfl⟩:=h
   exact .inr ⟨_,rfl⟩
  ·cases h
 case index t x i=>
  simp only [BC] at h
  split at h
  ·cases h;exact .inr ⟨_,rfl⟩
  ·cases h
 case extract x i=>simp only [BC,Option.some.injEq] at h;subst h;exact .inr ⟨_,rfl⟩
 case call c=>
  obtain ⟨callee,args,argTypes⟩:=c
  simp only [BC] at h
  split at h
  ·split at h
   ·split at h
    ·cases h
    ·cases h;exact .inr ⟨_,_,rfl⟩
   ·cases h
  ·split at h
   ·split at h <;> first | (cases h;exact .inr ⟨_,rfl⟩) | cases h
   ·cases h
  ·split at h <;> first | (cases h;exact .inr ⟨_,rfl⟩) | cases h
  ·split at h
   ·split at h
    ·split at h
     ·simp only [Option.bind_eq_some_iff] at h
      obtain ⟨z,hz,h⟩:=h
      split at h
      ·cases h;exact .inl ⟨_,rfl⟩
      ·cases h
     ·cases h
    ·cases h
   ·cases h
  ·cases h
 all_goals (simp [BC] at h)
theorem ZK {C:Ctx} {ops:Array Oper} {env1:Env} {o:Oper} {st:Stp} {w:(Value→Q)→Q} {K1:Value→Q} {s s':St} {v:Value} (hk:K1 v s') (h:match o.guard with
   | none=>B9 C st s v s'
   | some (j,want)=> ∃t,C6 ops j=some t∧((lk env1 t= .bool want∧B9 C st s v s')∨((lk env1 t= .bool !want∨lk env1 t=undef)∧v=undef∧s'=s))) (hw:B9 C st s v s'→w K1 s):gdd ops env1 o w K1 s:=by
 unfold gdd
 cases hg:o.guard with
 | none=>rw [hg] at h;exact hw h
 | some jw=>
   obtain ⟨j,want⟩:=jw
   rw [hg] at h
   obtain ⟨t,ht,h⟩:=h
   simp only [ht]
   rcases h with ⟨h1,h2⟩ | ⟨h1,rfl,rfl⟩
   ·exact .inl ⟨h1,hw h2⟩
   ·exact .inr ⟨h1,hk⟩
theorem IE {C:Ctx} {B:Bas} {ro:List (List T)} {sgs:List (Nat×Sg)} {ops:Array Oper} {L:List Nat} {K:Obs→Nat→DR→Prop} {K1:Env→Q} {Φ:Mst→Prop} (hΦ: ∀m m' aff kl,Φ m→Nx2 ro m aff kl m'→Φ m') (hK: ∀m env env1,K m.ob m.nk env→Mem B ro m→HS ro m env env1→Φ m→K1 env1 m.s):
  ∀(l:List Oper) (i:Nat) (m:Mst) (env:DR) (env1:Env) (p2:List (Nat×EV)) (p1:List (Nat×Value)) (q2:List (Nat×List Nat)) (q1:List (Nat×St×St)),Mem B ro m→HS ro m env env1→RV (E0R ro m) p2 p1→PU ro m q2 q1→Φ m→
   J3 C sgs ro ops L i l m.ob m.nk env p2 q2 K→B3 C ops L i l env1 p1 q1 K1 m.s
 | [],i,m,env,env1,p2,p1,q2,q1,hm,hE,hp,hq,hF,h=>hK m env env1 h hm hE hF
 | o::r,i,m,env,env1,p2,p1,q2,q1,hm,hE,hp,hq,hF,h=>by
   simp only [J3] at h
   split at h
   ·exact h.elim
   ·rename_i g hg
    split at h
    ·exact h.elim
    ·rename_i x hx
     obtain ⟨st0,hst0,_⟩:=MY (C:=C) (env1:=env1) hx
     have hknd:=tT hst0
     split at h
     ·
      rename_i hkd
      rw [hkd] at hknd
      obtain ⟨gg,y,rfl,hwof⟩:=hknd
      split at h
      ·rename_i hsam
       obtain ⟨st,hst,v,m',env',h1,h2,h3,h4,h5⟩:=JA hm hE hg hx h
       rw [hst0] at hst;cases hst
       simp only [B3,hst0]
       have hw:PR (E0R ro m) (wOf g.2 env o) (ev env1 y):=by rw [hwof];exact vT hE y
       have hrest:=IE hΦ hK r (i+1) m' env' (FA o.dst v env1) ((i,H8 (SY x) (wOf g.2 env o))::M4 (SY x) p2) ((i,ev env1 y)::p1) q2 q1 h2 h4 ⟨rfl,hw.imp (fun hh=>h3.kp.ev hh) id,hp.next h3⟩ (hq.next hm h2 h3) (hΦ _ _ _ _ hF h3) h1
       refine ZK hrest h5 fun hgo=> ?_
       have hall: ∀z∈CV L i q1,MS (ev env1 y) z.1 z.2:=fun z hz=>by
        obtain ⟨ids,hids,hp1⟩:=hq.CV z hz
        exact sX hm hp1 hw (List.all_eq_true.1 hsam ids hids)
       unfold lA
       cases hpk:CV L i q1 with
       | nil=>exact ⟨v,m'.s,hgo,hrest⟩
       | cons z zs=>exact ⟨by rw [←hpk];exact hall,v,m'.s,hgo,hrest⟩
      ·exact h.elim
     ·
      rename_i hkd
      rw [hkd] at hknd
      obtain ⟨gg,rfl⟩:=hknd
      obtain ⟨st,hst,v,m',env',h1,h2,h3,h4,h5⟩:=JA hm hE hg hx h
      rw [hst0] at hst;cases hst
      simp only [B3,hst0]
      have hv:PR (E0R ro m') (oT o.dst env') v:=by
       unfold oT
       cases hd:o.dst with
       | none=>exact .inl trivial
       | some d=>
         have:=h4 d
         unfold UP at this
         simp only
         cases hx:(lkE env' d).1 with
         | none=>
           rw [hx] at this
           rw [cG,if_pos hd] at this
           exact .inl this
         | some _=>exact .inl trivial
      have hrest:=IE hΦ hK r (i+1) m' env' (FA o.dst v env1) ((i,oT o.dst env')::M4 (SY x) p2) ((i,v)::p1) q2 q1 h2 h4 ⟨rfl,hv,hp.next h3⟩ (hq.next hm h2 h3) (hΦ _ _ _ _ hF h3) h1
      exact ZK hrest h5 fun hgo=>⟨v,m'.s,hgo,hrest⟩
     ·
      rename_i hkd
      rw [hkd] at hknd
      obtain ⟨st,hst,v,m',env',h1,h2,h3,h4,h5⟩:=JA hm hE hg hx h
      rw [hst0] at hst;cases hst
      have hrest:=IE hΦ hK r (i+1) m' env' (FA o.dst v env1) (M4 (SY x) p2) p1 q2 q1 h2 h4 (hp.next h3) (hq.next hm h2 h3) (hΦ _ _ _ _ hF h3) h1
      rcases hknd with ⟨w,rfl⟩ | ⟨w,rfl⟩
      ·simp only [B3,hst0]
       refine ZK hrest h5 fun hgo=> ?_
       obtain ⟨rfl,hs⟩:=hgo
       rw [←hs];exact hrest
      ·simp only [B3,hst0]
       refine ZK hrest h5 fun hgo=> ?_
       obtain ⟨hr,hs⟩:=hgo
       exact ⟨v,hr,by rw [←hs];exact hrest⟩
     ·
      rename_i hkd
      rw [hkd] at hknd
      have hdraw: ∀(K':Q),(match MM C.P L i 0 ops.toList with
        | false=>gdd ops env1 o (KZ C st0) fun v=>B3 C ops L (i+1) r (FA o.dst v env1) p1 q1 K1
        | true=>match o.guard with
          | some (j,want)=>(match C6 ops j with
            | some t=>gN (lk env1 t) want (mon (CV L i p1) (KZ C st0)) fun v a b=>B3 C ops L (i+1) r (FA o.dst v env1) p1 ((i,a,b)::q1) K1
            | none=>fun _=>False)
          | none=>mon (CV L i p1) (KZ C st0) fun v a b=>B3 C ops L (i+1) r (FA o.dst v env1) p1 ((i,a,b)::q1) K1:Q) m.s→B3 C ops L i (o::r) env1 p1 q1 K1 m.s:=by
       intro _ hh
       rcases hknd with ⟨w,rfl⟩ | ⟨f,as,rfl⟩ <;> (simp only [B3,hst0];exact hh)
      refine hdraw (K1 env1) ?_
      cases hme:MM C.P L i 0 ops.toList with
      | false=>
        rw [hme] at h
        obtain ⟨st,hst,v,m',env',h1,h2,h3,h4,h5⟩:=JA hm hE hg hx h
        rw [hst0] at hst;cases hst
        have hrest:=IE hΦ hK r (i+1) m' env' (FA o.dst v env1) (M4 (SY x) p2) p1 q2 q1 h2 h4 (hp.next h3) (hq.next hm h2 h3) (hΦ _ _ _ _ hF h3) h1
        exact e7 (K1:=fun v=>B3 C ops L (i+1) r (FA o.dst v env1) p1 q1 K1) hrest h5
      | true=>
        rw [hme] at h
        simp only at h
        split at h
        ·rename_i hmon
         obtain ⟨st,hst,v,m',env',h1,h2,h3,h4,h5⟩:=JA hm hE hg hx h
         rw [hst0] at hst;cases hst
         have hrest: ∀a b,a=m.s→b=m'.s→B3 C ops L (i+1) r (FA o.dst v env1) p1 ((i,a,b)::q1) K1 m'.s:=fun a b ha hb=>
          IE hΦ hK r (i+1) m' env' (FA o.dst v env1) (M4 (SY x) p2) p1 ((i,aM ro m.ob (eZ x))::q2) ((i,a,b)::q1) h2 h4 (hp.next h3) ⟨rfl,by rw [ha,hb];exact nG hm h2 h3,hq.next hm h2 h3⟩ (hΦ _ _ _ _ hF h3) h1
         have hun: ∀w∈CV L i p1,MS w m.s m'.s:=fun w hw=>by
          obtain ⟨e,he,hpr⟩:=hp.CV w hw
          exact tH hm h3 hpr (List.all_eq_true.1 hmon e he)
         cases hgu:o.guard with
         | none=>
           rw [hgu] at h5
           exact IP.2 ⟨v,m'.s,h5,hun,hrest m.s m'.s rfl rfl⟩
         | some jw=>
           obtain ⟨j,want⟩:=jw
           rw [hgu] at h5
           obtain ⟨t,ht,h5⟩:=h5
           simp only [ht]
           rcases h5 with ⟨k1,k2⟩ | ⟨k1,hv,hmm⟩
           ·exact .inl ⟨k1,IP.2 ⟨v,m'.s,k2,hun,hrest m.s m'.s rfl rfl⟩⟩
           ·subst hv
            have hr:=hrest m.s m'.s rfl rfl
            rw [hmm] at hr
            exact .inr ⟨k1,hr⟩
        ·exact h.elim
end Go.Proofs.Ytklmcfpgdfibnaa.Eng
namespace Go.Proofs.Ytklmcfpgdfibnaa.Eng
open Go Go.RowKit
set_option linter.unusedVariables false
set_option linter.unusedSimpArgs false
set_option linter.constructorNameAsVariable false
def KA (a b:Jm):Prop:= ∀x v,FI a x=some v→FI b x=some v
theorem KA.refl (a:Jm):KA a a:=fun _ _ h=>h
theorem KA.trans {a b c:Jm} (h:KA a b) (k:KA b c):KA a c:=fun x v hx=>k x v (h x v hx)
theorem JH {m:Jm} {a b:Nat} {x:Option Nat}:FI ((a,x)::m) b=if a=b then some x else FI m b:=by
 simp only [FI]
 split
 ·rename_i hb;rw [if_pos (Nat.eq_of_beq_eq_true hb)]
 ·rename_i hb;rw [if_neg];intro h;subst h;simp at hb
theorem KA.cons {m:Jm} {a:Nat} {x:Option Nat} (h:FI m a=none):KA m ((a,x)::m):=fun b v hv=>by
 rw [JH]
 by_cases he:a=b
 ·subst he;rw [h] at hv;cases hv
 ·rw [if_neg he];exact hv
def w3 (nro:Nat) (m':Jm) (k:Nat):Rf→Prop
 | .f a=>a=k∧a<nro
 | .j a=>FI m' a=some (some k)
theorem O3 {nro:Nat} {m m':Jm} {r:Rf} {k:Nat} (h:UR nro m r k=some m'):KA m m'∧w3 nro m' k r:=by
 cases r with
 | f a=>
   simp only [UR] at h
   split at h
   ·rename_i hb
    simp only [Bool.and_eq_true] at hb
    cases h;exact ⟨KA.refl _,Nat.eq_of_beq_eq_true hb.1,Nat.le_of_ble_eq_true hb.2⟩
   ·cases h
 | j a=>
   simp only [UR] at h
   split at h
   ·rename_i hl;cases h;exact ⟨KA.cons hl,by show FI _ a=_;rw [JH,if_pos rfl]⟩
   ·rename_i k' hl
    split at h
    ·rename_i hb;cases h;have:=Nat.eq_of_beq_eq_true hb;subst this;exact ⟨KA.refl _,hl⟩
    ·cases h
   ·cases h
structure JC (ro:List (List T)) (m m2:Mst) (n0:Nat) (J:Jm):Prop where
 s:m2.s=m.s
 nk: ∀a v,FI J a=some v→n0+a<m2.nk
 rk:ro.length≤m2.nk
 rof: ∀k,k<ro.length→AV ro m2.ob k=AV ro m.ob k∧m2.A k=m.A k
 j: ∀a k,FI J a=some (some k)→m2.A (n0+a)=m.A k∧(∀own cs,AV ro m2.ob (n0+a)=some (.ls own cs)→AV ro m.ob k=some (.ls own cs))∧ ∀xs,AV ro m2.ob (n0+a)=some (.bx xs)→ ∃ys,AV ro m.ob k=some (.bx ys)
 jn: ∀a,FI J a=some none→(m2.A (n0+a)).nil=true
theorem JC.id {ro:List (List T)} {m m2:Mst} {n0:Nat} {J:Jm} {jm jm':Jm} {r:Rf} {k:Nat} (h:JC ro m m2 n0 J) (hadd:UR ro.length jm r k=some jm') (he:KA jm' J):
  B6 n0 r<m2.nk∧m2.A (B6 n0 r)=m.A k∧(∀own cs,AV ro m2.ob (B6 n0 r)=some (.ls own cs)→AV ro m.ob k=some (.ls own cs))∧ ∀xs,AV ro m2.ob (B6 n0 r)=some (.bx xs)→ ∃ys,AV ro m.ob k=some (.bx ys):=by
 obtain ⟨_,h2⟩:=O3 hadd
 cases r with
 | f a=>
   obtain ⟨rfl,hlt⟩:=h2
   obtain ⟨h3,h4⟩:=h.rof a hlt
   exact ⟨Nat.lt_of_lt_of_le hlt h.rk,h4,fun own cs hl=>by rw [←h3];exact hl,fun xs hl=>⟨xs,by rw [←h3];exact hl⟩⟩
 | j a=>
   have h3:=he a _ h2
   obtain ⟨h4,h5,h6⟩:=h.j a k h3
   exact ⟨h.nk a _ h3,h4,h5,h6⟩
theorem RY {xs:List Value}: ∀{pre:List Nat} {i:Nat},Str xs i (ivs pre)→XQ xs pre.length i=pre
 | [],i,_=>rfl
 | a::r,i,h=>by
   obtain ⟨h1,h2⟩:=(show Str xs i (iv a::ivs r) from h).tl
   simp only [List.length_cons,XQ]
   rw [h1,AW,RY h2]
theorem O2 {l:List Nat}:(ivs l).length=l.length:=by simp [ivs]
theorem eW {ro:List (List T)} {n0:Nat} {J:Jm} {h:SH} {x:E0} {jm jm':Jm} {v1 xs:List Value} {i:Nat} (ho:LA ro.length h x jm=some (v1,jm')):
  KA jm jm'∧(∀m m2,JC ro m m2 n0 J→KA jm' J→Str xs i v1→(inS n0 xs i h).2=i+v1.length∧ ∀u,E0R ro m x u→E0R ro m2 (inS n0 xs i h).1 u):=by
 cases h with
 | v=>
   cases x <;> simp only [LA,reduceCtorEq,Option.some.injEq,Prod.mk.injEq] at ho
   obtain ⟨rfl,rfl⟩:=ho
   refine ⟨KA.refl _,fun m m2 hJ _ hs=>⟨rfl,fun u hu=> ?_⟩⟩
   have:=hs.tl.1
   simp only [inS];rw [this];exact hu
 | w=>
   have:LA ro.length .w x jm=some ([],jm):=by cases x <;> rfl
   rw [this] at ho
   cases ho
   exact ⟨KA.refl _,fun m m2 hJ _ _=>⟨rfl,fun u hu=>trivial⟩⟩
 | z=>
   cases x <;> simp only [LA,reduceCtorEq,Option.some.injEq,Prod.mk.injEq] at ho
   obtain ⟨rfl,rfl⟩:=ho
   exact ⟨KA.refl _,fun m m2 hJ _ _=>⟨rfl,fun u hu=>hu⟩⟩
 | t r e=>
   cases x <;> try (cases r <;> simp [LA] at ho;done)
   ·cases r with
    | f a=>simp [LA] at ho
    | j a=>
      simp only [LA] at ho
      split at ho
      ·rename_i hl hb
       cases ho
       refine ⟨KA.cons hl,fun m m2 hJ he _=>⟨rfl,fun u hu=> ?_⟩⟩
       have h1:=he a none (by rw [JH,if_pos rfl])
       have hu:u=nl:=hu
       subst hu
       exact ⟨hJ.nk a _ h1,rfl,Nat.le_of_ble_eq_true hb,fun own cs hl=> .inl ⟨rfl,hJ.jn a h1⟩⟩
      ·cases ho
   ·rename_i k e'
    have ho':(match Nat.beq e e' with | true=>(UR ro.length jm r k).map fun m'=>(([]:List Value),m') | false=>none)=some (v1,jm'):=by cases r <;> exact ho
    split at ho'
    ·rename_i hb
     have:=Nat.eq_of_beq_eq_true hb;subst this
     simp only [Option.map_eq_some_iff,Prod.mk.injEq] at ho'
     obtain ⟨m',h1,rfl,rfl⟩:=ho'
     refine ⟨(O3 h1).1,fun m m2 hJ he _=>⟨rfl,fun u hu=> ?_⟩⟩
     obtain ⟨g1,g2,g3,g4⟩:=hJ.id h1 he
     obtain ⟨_,k2,k3,k4⟩:=hu
     simp only [inS]
     refine ⟨g1,k2,k3,fun own cs hl=> ?_⟩
     rw [g2];exact k4 own cs (g3 own cs hl)
    ·cases ho'
 | s r d e=>
   cases x <;> simp only [LA,reduceCtorEq] at ho
   rename_i k pre off n e'
   split at ho
   ·rename_i hb
    simp only [Bool.and_eq_true] at hb
    have e1:=Nat.eq_of_beq_eq_true hb.1;subst e1
    have e2:=Nat.eq_of_beq_eq_true hb.2;subst e2
    simp only [Option.map_eq_some_iff,Prod.mk.injEq] at ho
    obtain ⟨m',h1,rfl,rfl⟩:=ho
    refine ⟨(O3 h1).1,fun m m2 hJ he hs=>⟨by simp [inS,O2];omega,fun u hu=> ?_⟩⟩
    obtain ⟨g1,g2,g3,g4⟩:=hJ.id h1 he
    obtain ⟨s1,s2⟩:=hs.tl
    obtain ⟨s3,s4⟩:=s2.tl
    simp only [inS]
    rw [s1,s3,AW,AW,RY s4]
    obtain ⟨_,k2,k4⟩:=hu
    refine ⟨g1,k2,fun own cs hl=> ?_⟩
    rw [g2,hJ.s];exact k4 own cs (g3 own cs hl)
   ·cases ho
 | n r d e=>
   cases x <;> simp only [LA,reduceCtorEq] at ho
   rename_i k pre e'
   split at ho
   ·rename_i hb
    simp only [Bool.and_eq_true] at hb
    have e1:=Nat.eq_of_beq_eq_true hb.1;subst e1
    have e2:=Nat.eq_of_beq_eq_true hb.2;subst e2
    simp only [Option.map_eq_some_iff,Prod.mk.injEq] at ho
    obtain ⟨m',h1,rfl,rfl⟩:=ho
    refine ⟨(O3 h1).1,fun m m2 hJ he hs=>⟨by simp [inS,O2],fun u hu=> ?_⟩⟩
    obtain ⟨g1,g2,g3,g4⟩:=hJ.id h1 he
    simp only [inS]
    rw [RY hs]
    obtain ⟨_,k2,k3,k4⟩:=hu
    refine ⟨g1,k2,k3,fun own cs hl=> ?_⟩
    rw [g2,hJ.s];exact k4 own cs (g3 own cs hl)
   ·cases ho
 | p r off=>
   cases x <;> simp only [LA,reduceCtorEq] at ho
   rename_i k off'
   split at ho
   ·rename_i hb
    have e1:=Nat.eq_of_beq_eq_true hb;subst e1
    simp only [Option.map_eq_some_iff,Prod.mk.injEq] at ho
    obtain ⟨m',h1,rfl,rfl⟩:=ho
    refine ⟨(O3 h1).1,fun m m2 hJ he hs=>⟨rfl,fun u hu=> ?_⟩⟩
    obtain ⟨g1,g2,g3,g4⟩:=hJ.id h1 he
    obtain ⟨_,k2,k4⟩:=hu
    simp only [inS]
    refine ⟨g1,k2,fun ys hl=> ?_⟩
    obtain ⟨zs,hz⟩:=g4 ys hl
    rw [g2];exact k4 zs hz
   ·cases ho
 | e r d=>
   cases x <;> simp only [LA,reduceCtorEq] at ho
   rename_i k pre off
   split at ho
   ·rename_i hb
    have e2:=Nat.eq_of_beq_eq_true hb;subst e2
    simp only [Option.map_eq_some_iff,Prod.mk.injEq] at ho
    obtain ⟨m',h1,rfl,rfl⟩:=ho
    refine ⟨(O3 h1).1,fun m m2 hJ he hs=>⟨by simp [inS,O2];omega,fun u hu=> ?_⟩⟩
    obtain ⟨g1,g2,g3,g4⟩:=hJ.id h1 he
    obtain ⟨s1,s2⟩:=hs.tl
    simp only [inS]
    rw [s1,AW,RY s2]
    obtain ⟨_,k2,k4⟩:=hu
    refine ⟨g1,k2,fun own cs hl=> ?_⟩
    rw [g2,hJ.s];exact k4 own cs (g3 own cs hl)
   ·cases ho
theorem W7 {ro:List (List T)}: ∀{hs:List SH} {xs:List E0} {jm jm':Jm} {v:List Value},I4 ro.length hs xs jm=some (v,jm')→KA jm jm'
 | [],[],jm,jm',v,h=>by simp only [I4,Option.some.injEq,Prod.mk.injEq] at h;rw [h.2];exact KA.refl _
 | h::r,x::xs,jm,jm',v,ho=>by
   simp only [I4,Option.bind_eq_some_iff,Option.map_eq_some_iff] at ho
   obtain ⟨p,h1,q,h2,h3⟩:=ho
   cases h3
   exact (eW (ro:=ro) (n0:=0) (J:=[]) (xs:=[]) (i:=0) (v1:=p.1) (jm':=p.2) h1).1.trans (W7 (v:=q.1) h2)
 | [],x::xs,jm,jm',v,h=>by simp [I4] at h
 | h::r,[],jm,jm',v,ho=>by simp [I4] at ho
theorem UQ {ro:List (List T)} {m m2:Mst} {n0:Nat} {J:Jm} (hJ:JC ro m m2 n0 J): ∀{hs:List SH} {xs:List E0} {jm jm':Jm} {v1 vs:List Value} {i:Nat},I4 ro.length hs xs jm=some (v1,jm')→KA jm' J→Str vs i v1→
  KA jm J∧(LG n0 vs i hs).2=i+v1.length∧(LG n0 vs i hs).1.length=xs.length∧ ∀us,CO (E0R ro m) xs us→CO (E0R ro m2) (LG n0 vs i hs).1 us
 | [],[],jm,jm',v1,vs,i,h,he,hs=>by
   simp only [I4,Option.some.injEq,Prod.mk.injEq] at h
   obtain ⟨rfl,rfl⟩:=h
   exact ⟨he,rfl,rfl,fun us hu=>(by cases us with | nil=>trivial | cons _ _=>exact hu.elim)⟩
 | h::r,x::xs,jm,jm',v1,vs,i,ho,he,hs=>by
   simp only [I4,Option.bind_eq_some_iff,Option.map_eq_some_iff] at ho
   obtain ⟨p,h1,q,h2,h3⟩:=ho
   cases h3
   have k1:=eW (n0:=n0) (J:=J) (xs:=vs) (i:=i) (v1:=p.1) (jm':=p.2) h1
   obtain ⟨g1,g2,g3,g4⟩:=UQ hJ (v1:=q.1) (jm':=q.2) (vs:=vs) (i:=i+p.1.length) h2 he hs.app.2
   obtain ⟨k2,k3⟩:=k1.2 m m2 hJ g1 hs.app.1
   simp only [LG]
   rw [k2]
   refine ⟨k1.1.trans g1,by rw [g2,List.length_append];omega,by simp [g3],fun us hu=> ?_⟩
   cases us with
   | nil=>exact hu.elim
   | cons u us=>exact ⟨k3 u hu.1,g4 us hu.2⟩
 | [],x::xs,jm,jm',v1,vs,i,h,_,_=>by simp [I4] at h
 | h::r,[],jm,jm',v1,vs,i,ho,_,_=>by simp [I4] at ho
theorem pC {ro:List (List T)} {n0:Nat} {h:SH} {x:E0} {jm jm':Jm} {v xs:List Value} {i:Nat} (ho:LA ro.length h x jm=some (v,jm')):(inS n0 xs i h).2=i+v.length:=by
 cases h with
 | v=>
   cases x <;> simp only [LA,reduceCtorEq,Option.some.injEq,Prod.mk.injEq] at ho
   obtain ⟨rfl,rfl⟩:=ho
   rfl
 | w=>
   have:LA ro.length .w x jm=some ([],jm):=by cases x <;> rfl
   rw [this] at ho
   cases ho;rfl
 | z=>
   cases x <;> simp only [LA,reduceCtorEq,Option.some.injEq,Prod.mk.injEq] at ho
   obtain ⟨rfl,rfl⟩:=ho
   rfl
 | t r e=>
   cases x <;> try (cases r <;> simp [LA] at ho;done)
   ·cases r with
    | f a=>simp [LA] at ho
    | j a=>
      simp only [LA] at ho
      split at ho
      ·cases ho;rfl
      ·cases ho
   ·rename_i k e'
    have ho':(match Nat.beq e e' with | true=>(UR ro.length jm r k).map fun m'=>(([]:List Value),m') | false=>none)=some (v,jm'):=by cases r <;> exact ho
    split at ho'
    ·simp only [Option.map_eq_some_iff,Prod.mk.injEq] at ho'
     obtain ⟨m',h1,rfl,rfl⟩:=ho'
     rfl
    ·cases ho'
 | s r d e=>
   cases x <;> simp only [LA,reduceCtorEq] at ho
   split at ho
   ·rename_i hb
    simp only [Bool.and_eq_true] at hb
    have e2:=Nat.eq_of_beq_eq_true hb.2;subst e2
    simp only [Option.map_eq_some_iff,Prod.mk.injEq] at ho
    obtain ⟨m',h1,rfl,rfl⟩:=ho
    simp [inS,O2];omega
   ·cases ho
 | n r d e=>
   cases x <;> simp only [LA,reduceCtorEq] at ho
   split at ho
   ·rename_i hb
    simp only [Bool.and_eq_true] at hb
    have e2:=Nat.eq_of_beq_eq_true hb.2;subst e2
    simp only [Option.map_eq_some_iff,Prod.mk.injEq] at ho
    obtain ⟨m',h1,rfl,rfl⟩:=ho
    simp [inS,O2]
   ·cases ho
 | p r off=>
   cases x <;> simp only [LA,reduceCtorEq] at ho
   split at ho
   ·simp only [Option.map_eq_some_iff,Prod.mk.injEq] at ho
    obtain ⟨m',h1,rfl,rfl⟩:=ho
    rfl
   ·cases ho
 | e r d=>
   cases x <;> simp only [LA,reduceCtorEq] at ho
   split at ho
   ·rename_i hb
    have e2:=Nat.eq_of_beq_eq_true hb;subst e2
    simp only [Option.map_eq_some_iff,Prod.mk.injEq] at ho
    obtain ⟨m',h1,rfl,rfl⟩:=ho
    simp [inS,O2];omega
   ·cases ho
theorem VJ {ro:List (List T)} {n0:Nat} {vs:List Value}: ∀{hs:List SH} {xs:List E0} {jm jm':Jm} {v:List Value} {i:Nat},I4 ro.length hs xs jm=some (v,jm')→(LG n0 vs i hs).2=i+v.length
 | [],[],jm,jm',v,i,h=>by simp only [I4,Option.some.injEq,Prod.mk.injEq] at h;rw [←h.1];rfl
 | h::r,x::xs,jm,jm',v,i,ho=>by
   simp only [I4,Option.bind_eq_some_iff,Option.map_eq_some_iff] at ho
   obtain ⟨p,h1,q,h2,h3⟩:=ho
   cases h3
   simp only [LG]
   rw [pC (v:=p.1) (jm':=p.2) h1,VJ (v:=q.1) (jm':=q.2) h2,List.length_append];omega
 | [],x::xs,jm,jm',v,i,h=>by simp [I4] at h
 | h::r,[],jm,jm',v,i,ho=>by simp [I4] at ho
def ObF (ro:List (List T)) (ob:Obs) (n0:Nat) (J:Jm) (a:Nat) (o:Ob2):Prop:=
 (∃c,o= .ls true c∧((FI J a=some none∧c=[])∨ ∃k,FI J a=some (some k)∧BT ob k=some (.ls true c)))∨
 (∃k xs ys,o= .bx ys∧FI J a=some (some k)∧BT ob k=some (.bx xs)∧ ∀m m2,JC ro m m2 n0 J→ ∀us,CO (E0R ro m) xs us→CO (E0R ro m2) ys us)
theorem UA {ro:List (List T)} {ob:Obs} {n0:Nat} {J:Jm} {vs:List Value} {cs:List (List T)}: ∀{os:List JO} {a:Nat} {jm:Jm} {v:List Value} {cl:List (List T)} {i j:Nat},ZZ ro.length ob os a jm=some (v,cl,J)→Str vs i v→OL cs j cl→
  KA jm J∧ ∀b o,BT (inO n0 vs cs os a i j) b=some o→ ∃a',b=n0+a'∧a≤a'∧a'<a+os.length∧ObF ro ob n0 J a' o
 | [],a,jm,v,cl,i,j,h,_,_=>by
   simp only [ZZ,Option.some.injEq,Prod.mk.injEq] at h
   obtain ⟨_,_,rfl⟩:=h
   exact ⟨KA.refl _,fun b o hb=>by simp [inO,BT] at hb⟩
 | .ls::r,a,jm,v,cl,i,j,h,hv,hc=>by
   simp only [ZZ] at h
   split at h
   ·rename_i hl
    simp only [Option.map_eq_some_iff] at h
    obtain ⟨q,h1,h2⟩:=h
    cases h2
    obtain ⟨c1,c2⟩:=hc.tl
    obtain ⟨g1,g2⟩:=UA (v:=q.1) (cl:=q.2.1) (i:=i) (j:=j+1) h1 hv c2
    refine ⟨g1,fun b o hb=> ?_⟩
    simp only [inO,CG] at hb
    split at hb
    ·rename_i he
     cases hb
     exact ⟨a,he.symm,Nat.le_refl _,by simp, .inl ⟨_,rfl, .inl ⟨g1 a _ hl,c1⟩⟩⟩
    ·obtain ⟨a',e1,e2,e3,e4⟩:=g2 b o hb
     exact ⟨a',e1,by omega,by simp;omega,e4⟩
   ·rename_i k hl
    split at h
    ·rename_i c hk
     simp only [Option.map_eq_some_iff] at h
     obtain ⟨q,h1,h2⟩:=h
     cases h2
     obtain ⟨c1,c2⟩:=hc.tl
     obtain ⟨g1,g2⟩:=UA (v:=q.1) (cl:=q.2.1) (i:=i) (j:=j+1) h1 hv c2
     refine ⟨g1,fun b o hb=> ?_⟩
     simp only [inO,CG] at hb
     split at hb
     ·rename_i he
      cases hb
      exact ⟨a,he.symm,Nat.le_refl _,by simp, .inl ⟨_,rfl, .inr ⟨k,g1 a _ hl,by rw [c1];exact hk⟩⟩⟩
     ·obtain ⟨a',e1,e2,e3,e4⟩:=g2 b o hb
      exact ⟨a',e1,by omega,by simp;omega,e4⟩
    ·cases h
   ·cases h
 | .bx hs::r,a,jm,v,cl,i,j,h,hv,hc=>by
   simp only [ZZ] at h
   split at h
   ·rename_i k hl
    split at h
    ·rename_i xs hk
     simp only [Option.bind_eq_some_iff,Option.map_eq_some_iff] at h
     obtain ⟨p,h0,q,h1,h2⟩:=h
     cases h2
     have x1:=W7 (v:=p.1) (jm':=p.2) h0
     have hlen:(LG n0 vs i hs).2=i+p.1.length:=VJ (v:=p.1) (jm':=p.2) h0
     obtain ⟨g1,g2⟩:=UA (v:=q.1) (cl:=q.2.1) (i:=i+p.1.length) (j:=j) h1 hv.app.2 hc
     refine ⟨x1.trans g1,fun b o hb=> ?_⟩
     simp only [inO,CG,hlen] at hb
     split at hb
     ·rename_i he
      cases hb
      exact ⟨a,he.symm,Nat.le_refl _,by simp, .inr ⟨k,xs,_,rfl,(x1.trans g1) a _ hl,hk,fun m m2 hJ us hu=>(UQ hJ (v1:=p.1) (jm':=p.2) h0 g1 hv.app.1).2.2.2 us hu⟩⟩
     ·obtain ⟨a',e1,e2,e3,e4⟩:=g2 b o hb
      exact ⟨a',e1,by omega,by simp;omega,e4⟩
    ·cases h
   ·cases h
theorem Q5 {n0:Nat} {vs:List Value} {cs:List (List T)}: ∀{os:List JO} {a i j:Nat},(inO n0 vs cs os a i j).map (·.1)=(List.range' a os.length).map (n0+ ·)
 | [],a,i,j=>by simp [inO]
 | .ls::r,a,i,j=>by simp [inO,Q5,List.range'_succ]
 | .bx hs::r,a,i,j=>by simp [inO,Q5,List.range'_succ]
theorem T3: ∀{J:Jm},jH J=true→ ∀{a b k:Nat},a≠b→FI J a=some (some k)→FI J b≠some (some k)
 | [],_,a,b,k,_,h=>by simp [FI] at h
 | (x,none)::r,hi,a,b,k,hne,h=>by
   simp only [jH] at hi
   rw [JH] at h ⊢
   split at h
   ·cases h
   ·split
    ·intro hh;cases hh
    ·exact T3 hi hne h
 | (x,some y)::r,hi,a,b,k,hne,h=>by
   simp only [jH,Bool.and_eq_true,Bool.not_eq_true'] at hi
   have hmem: ∀{c z:Nat},FI r c=some (some z)→z≠y:=fun {c z} hc he=>by
    subst he
    have:(c,some z)∈r:=lookJ_mem hc
    have:=List.any_eq_false.1 hi.1 _ this
    simp at this
   rw [JH] at h ⊢
   split at h
   ·rename_i hxa
    cases h
    rw [if_neg (fun he=>hne (hxa.symm.trans he))]
    intro hh;exact hmem hh rfl
   ·split
    ·intro hh;cases hh;exact hmem h rfl
    ·exact T3 hi.2 hne h
where
 lookJ_mem: ∀{J:Jm} {c:Nat} {v:Option Nat},FI J c=some v→(c,v)∈J
  | [],c,v,h=>by simp [FI] at h
  | (x,y)::r,c,v,h=>by
    rw [JH] at h
    split at h
    ·rename_i he;cases h;subst he;simp
    ·exact List.mem_cons_of_mem _ (lookJ_mem h)
theorem kG {J:Jm} {n:Nat} (h:(J.all fun x=>Nat.blt x.1 n)=true) {a:Nat} {v:Option Nat} (hl:FI J a=some v):a<n:=
 Nat.le_of_ble_eq_true (List.all_eq_true.1 h _ (T3.lookJ_mem hl))
theorem cN {R:E0→Value→Prop} (hw: ∀u,R .w u): ∀{L:List Nat} {xs:List E0} {t:Nat},xs.length=L.length→ ∀{us:List Value} {env1:Env} {i:Nat} {ws:List Value},CO R xs us→(∀n u,us[n]? =some u→nx ws (i+n)=u)→UP R env1 (lkE (S5 L xs) t) (lk (inj L i ws) t)
 | [],xs,t,hl,us,env1,i,ws,_,_=>by
   have:xs=[]:=List.eq_nil_of_length_eq_zero hl
   subst this
   have:lkE (S5 [] []) t=(none, .o .w):=rfl
   rw [this]
   exact hw _
 | a::L,[],t,hl,_,_,_,_,_,_=>by simp at hl
 | a::L,x::xs,t,hl,us,env1,i,ws,ha,hn=>by
   cases us with
   | nil=>exact ha.elim
   | cons u us=>
     simp only [S5,lkE,inj,lk]
     cases hb:Nat.beq a t with
     | true=>
       simp only
       have:=hn 0 u rfl
       rw [Nat.add_zero] at this
       rw [this]
       exact ha.1
     | false=>exact cN hw (by simpa using hl) ha.2 fun n v hv=>by rw [show i+1+n=i+(n+1) by omega];exact hn (n+1) v (by simpa using hv)
theorem pX {ro:List (List T)} {m:Mst} {e:EV} {u:Value} (h:EVR (E0R ro m) e u):E0R ro m (vK e) u:=by
 cases e with
 | o x=>exact h
 | g xs=>trivial
 | u ys=>trivial
theorem Y4 {ro:List (List T)} {m:Mst} {env:DR} {env1:Env} (hE:HS ro m env env1): ∀(L:List Nat),CO (E0R ro m) (aL L env) (proj L env1)
 | []=>trivial
 | t::L=>⟨pX (XP (av:=[]) (fun g w h=>by simp [PM] at h) (hE t)),Y4 hE L⟩
def NQ (ro:List (List T)) (m:Mst) (pins:List E0) (pv:List Value):Prop:=CO (E0R ro m) pins pv∧pins.all I2=true
theorem kB {kl:List Nat} {x:E0} (h:I2 x=true):C4 kl x=x:=by
 cases x <;> try rfl
 ·rename_i k pre off;cases pre <;> first | rfl | simp [I2] at h
 ·rename_i k pre off n e;cases pre <;> first | rfl | simp [I2] at h
 ·rename_i k pre e;cases pre <;> first | rfl | simp [I2] at h
theorem NQ.next {ro:List (List T)} {m m':Mst} {aff kl:List Nat} {pins:List E0} {pv:List Value} (h:NQ ro m pins pv) (hn:Nx2 ro m aff kl m'):NQ ro m' pins pv:=by
 refine ⟨?_,h.2⟩
 have:=HD (f:=C4 kl) (fun x u hx=>hn.kp.e0 hx) h.1
 have e:pins.map (C4 kl)=pins:=by
  have h2:=h.2
  clear h this
  induction pins with
  | nil=>rfl
  | cons x r ih=>simp only [List.all_cons,Bool.and_eq_true] at h2;simp only [List.map_cons,kB h2.1,ih h2.2]
 rwa [e] at this
theorem aI {n0:Nat} {vs:List Value}: ∀{a b:List SH} {i:Nat},(LG n0 vs i (a++b)).1=(LG n0 vs i a).1++(LG n0 vs (LG n0 vs i a).2 b).1
 | [],b,i=>rfl
 | h::r,b,i=>by simp only [List.cons_append,LG,aI]
theorem aQ {n0:Nat} {vs:List Value}: ∀{hs:List SH} {i:Nat},(LG n0 vs i hs).1.length=hs.length
 | [],i=>rfl
 | h::r,i=>by simp [LG,aQ]
theorem XA {n0:Nat} {vs:List Value}: ∀{hs:List SH} {i:Nat},hs.all l7=true→(LG n0 vs i hs).1.all I2=true
 | [],i,_=>rfl
 | h::r,i,hf=>by
   simp only [List.all_cons,Bool.and_eq_true] at hf
   simp only [LG,List.all_cons,Bool.and_eq_true]
   exact ⟨by cases h <;> first | rfl | simp [l7] at hf,XA hf.2⟩
theorem qE {B:Bas} {ro:List (List T)} {m:Mst} (hm:Mem B ro m) {h:SH} {x:E0} {u:Value} (hx:E0R ro m x u):E0R ro m (lC ro m.ob h x) u:=by
 unfold lC
 split
 ·rename_i r e k e'
  split
  ·rename_i cs hc
   obtain ⟨hlt,hone,hpos,hr⟩:=hx
   refine ⟨hlt,hone,fun own cs2 hl=> ?_⟩
   simp only [DA,hl] at hc
   split at hc
   ·rename_i he
    have he:=Nat.eq_of_beq_eq_true he
    subst he
    simp only [Option.some.injEq] at hc;subst hc
    rcases hr own cs2 hl with ⟨h1,h2⟩ | ⟨n,h1,h2,h3⟩
    ·refine .inl ⟨h1, ?_⟩
     have hcs:cs2=[]:=by
      rcases hm.obr k _ hl with ⟨_,h3,_⟩ | ⟨h3,_⟩
      ·exact h3
      ·rw [h2] at h3;cases h3
     subst hcs
     exact SA (n:=0) hpos (by simp)
    ·rw [SA hpos h2]
     exact .inr ⟨cs2,_,_,rfl,by rw [h2];omega,h1,rfl,by rw [h3];rfl⟩
   ·cases hc
  ·exact hx
 ·exact hx
theorem bY {B:Bas} {ro:List (List T)} {m:Mst} (hm:Mem B ro m): ∀{hs:List SH} {xs:List E0} {us:List Value},CO (E0R ro m) xs us→CO (E0R ro m) (eK ro m.ob hs xs) us
 | [],xs,us,h=>by cases xs <;> exact h
 | h::r,[],us,ha=>ha
 | h::r,x::xs,[],ha=>ha.elim
 | h::r,x::xs,u::us,ha=>⟨qE hm ha.1,bY hm ha.2⟩
theorem QA {B:Bas} {ro:List (List T)} {m:Mst} {env:DR} {env1:Env} {J:JS} {L:List Nat} {n0:Nat} {j:J2} {pins:List E0} {pv:List Value} (hm:Mem B ro m) (hE:HS ro m env env1) (hpv:NQ ro m pins pv) (hn:ro.length≤n0) (h:meet ro J L ⟨m.ob,m.nk,env,pins⟩ j):
  ∃xs cs,j xs cs∧ ∃A',Mem B ro ⟨m.s,(inJ J L n0 xs cs).ob,(inJ J L n0 xs cs).nk,A'⟩∧HS ro ⟨m.s,(inJ J L n0 xs cs).ob,(inJ J L n0 xs cs).nk,A'⟩ (inJ J L n0 xs cs).env (inj L 0 (proj L env1))∧NQ ro ⟨m.s,(inJ J L n0 xs cs).ob,(inJ J L n0 xs cs).nk,A'⟩ (inJ J L n0 xs cs).pins pv:=by
 unfold meet at h
 split at h
 ·rename_i hfl
  simp only [Bool.and_eq_true] at hfl
  split at h
  ·rename_i xs cs ho
   refine ⟨xs,cs,h, ?_⟩
   simp only [u6,Option.bind_eq_some_iff] at ho
   obtain ⟨⟨v1,jm1⟩,h1,⟨v2,cl,jm⟩,h2,ho⟩:=ho
   split at ho
   ·rename_i hc
    simp only [Option.some.injEq,Prod.mk.injEq] at ho
    obtain ⟨rfl,rfl⟩:=ho
    simp only [Bool.and_eq_true] at hc
    have s1:Str (v1++v2) 0 (v1++v2):=fun t x hx=>by simp [nx,List.getD_eq_getElem?_getD,hx]
    have s2:OL cl 0 cl:=fun t x hx=>by simp [nxc,List.getD_eq_getElem?_getD,hx]
    have hlen:(LG n0 (v1++v2) 0 (J.ts++J.ps)).2=v1.length:=by have:=VJ (n0:=n0) (vs:=v1++v2) (i:=0) h1;rw [this];omega
    obtain ⟨g1,g2⟩:=UA (n0:=n0) (vs:=v1++v2) (cs:=cl) (i:=v1.length) (j:=0) h2 (by have:=s1.app.2;rwa [Nat.zero_add] at this) s2
    have hA: ∃A':Nat→Asg,(∀k,k<n0→A' k=m.A k)∧(∀a k,FI jm a=some (some k)→A' (n0+a)=m.A k)∧(∀a,FI jm a=some none→A' (n0+a)=⟨true,0,0,[]⟩):=by
     refine ⟨fun k=>if k<n0 then m.A k else match FI jm (k-n0) with
      | some (some k')=>m.A k'
      | _=>⟨true,0,0,[]⟩,fun k hk=>by simp [hk],fun a k hk=> ?_,fun a ha=> ?_⟩
     ·simp only [show ¬n0+a<n0 by omega,if_false,show n0+a-n0=a by omega,hk]
     ·simp only [show ¬n0+a<n0 by omega,if_false,show n0+a-n0=a by omega,ha]
    obtain ⟨A',a1,a2,a3⟩:=hA
    have hob:(inJ J L n0 (v1++v2) cl).ob=inO n0 (v1++v2) cl J.os 0 v1.length 0:=by simp only [inJ,hlen]
    have hnk:(inJ J L n0 (v1++v2) cl).nk=n0+J.os.length:=rfl
    have henv:(inJ J L n0 (v1++v2) cl).env=S5 L ((LG n0 (v1++v2) 0 (J.ts++J.ps)).1.take L.length):=rfl
    have hpin:(inJ J L n0 (v1++v2) cl).pins=(LG n0 (v1++v2) 0 (J.ts++J.ps)).1.drop L.length:=rfl
    refine ⟨A', ?_⟩
    rw [hob,hnk,henv,hpin]
    have hkok:KOk ro (inO n0 (v1++v2) cl J.os 0 v1.length 0) (n0+J.os.length):=by
     refine ⟨?_,fun x hx=> ?_,by omega⟩
     ·rw [Q5]
      rw [List.map_add_range'];exact List.nodup_range'
     ·have:x.1∈(inO n0 (v1++v2) cl J.os 0 v1.length 0).map (·.1):=List.mem_map.2 ⟨x,hx,rfl⟩
      rw [Q5] at this
      obtain ⟨y,hy,he⟩:=List.mem_map.1 this
      rw [List.mem_range'_1] at hy
      omega
    have look: ∀k o,AV ro (inO n0 (v1++v2) cl J.os 0 v1.length 0) k=some o→(k<ro.length∧AV ro m.ob k=some o)∨ ∃a,k=n0+a∧ObF ro m.ob n0 jm a o:=by
     intro k o hk
     unfold AV at hk
     split at hk
     ·rename_i o' hl
      cases hk
      obtain ⟨a',e1,_,_,e4⟩:=g2 k o hl
      exact .inr ⟨a',e1,e4⟩
     ·have:=(LM hk).1
      exact .inl ⟨this,by rw [KR hm.kok this];exact hk⟩
    have hJC:JC ro m ⟨m.s,inO n0 (v1++v2) cl J.os 0 v1.length 0,n0+J.os.length,A'⟩ n0 jm:=by
     refine ⟨rfl,fun a v hv=> ?_,by simp only;omega,fun k hk=>⟨by rw [KR hkok hk,KR hm.kok hk],a1 k (by omega)⟩,fun a k hk=>⟨a2 a k hk,fun own cs hl=> ?_,fun xs hl=> ?_⟩,fun a ha=>by simp only [a3 a ha]⟩
     ·have:=kG hc.2 hv;simp only;omega
     ·rcases look _ _ hl with ⟨hlt,_⟩ | ⟨a',he,hf⟩
      ·omega
      ·have:a'=a:=by omega
       subst this
       rcases hf with ⟨c,hco,hf⟩ | ⟨_,_,_,hco,_⟩
       ·cases hco
        rcases hf with ⟨hf,_⟩ | ⟨k',hf,hk'⟩
        ·rw [hk] at hf;cases hf
        ·rw [hk] at hf;cases hf;exact BV hk'
       ·cases hco
     ·rcases look _ _ hl with ⟨hlt,_⟩ | ⟨a',he,hf⟩
      ·omega
      ·have:a'=a:=by omega
       subst this
       rcases hf with ⟨c,hco,hf⟩ | ⟨k',xs',ys,hco,hf,hk',_⟩
       ·cases hco
       ·rw [hk] at hf;cases hf;exact ⟨xs',BV hk'⟩
    have rep: ∀k o,AV ro (inO n0 (v1++v2) cl J.os 0 v1.length 0) k=some o→(A' k).F=[]∨ ∃k0 o0,AV ro m.ob k0=some o0∧A' k=m.A k0∧FL o0=FL o∧((k<ro.length∧k0=k)∨ ∃a,k=n0+a∧FI jm a=some (some k0)):=by
     intro k o hk
     rcases look k o hk with ⟨hlt,hl⟩ | ⟨a,rfl,hf⟩
     ·exact .inr ⟨k,o,hl,a1 k (by omega),rfl, .inl ⟨hlt,rfl⟩⟩
     ·rcases hf with ⟨c,rfl,⟨hf,_⟩ | ⟨k',hf,hk'⟩⟩ | ⟨k',xs',ys,rfl,hf,hk',_⟩
      ·exact .inl (by rw [a3 a hf])
      ·exact .inr ⟨k',_,BV hk',a2 a k' hf,rfl, .inr ⟨a,rfl,hf⟩⟩
      ·exact .inr ⟨k',_,BV hk',a2 a k' hf,rfl, .inr ⟨a,rfl,hf⟩⟩
    refine ⟨⟨hkok,fun k o hk=> ?_,fun k o hk how=> ?_,fun k k' o o' hne hk hk' how x hx hx'=> ?_,hm.frn,hm.fr⟩, ?_⟩
    ·rcases look k o hk with ⟨hlt,hl⟩ | ⟨a,rfl,hf⟩
     ·have hob:=hm.obr k o hl
      obtain ⟨_,cs0,rfl⟩:=LM (by rw [KR hm.kok hlt] at hl;exact hl)
      simp only [ObR,a1 k (show k<n0 by omega)]
      exact hob
     ·rcases hf with ⟨c,rfl,⟨hf,hcn⟩ | ⟨k',hf,hk'⟩⟩ | ⟨k',xs',ys,rfl,hf,hk',hall⟩
      ·simp only [ObR,a3 a hf]
       exact .inl ⟨trivial,hcn,trivial⟩
      ·have hob:=hm.obr k' _ (BV hk')
       simp only [ObR,a2 a k' hf]
       exact hob
      ·obtain ⟨hF,us,hg,ha⟩:=hm.obr k' _ (BV hk')
       simp only [ObR,a2 a k' hf]
       exact ⟨hF,us,hg,hall m _ hJC us ha⟩
    ·rcases rep k o hk with h0 | ⟨k0,o0,h3,h4,h5,_⟩
     ·rw [h0];exact ⟨List.nodup_nil,fun h hh=>by simp at hh⟩
     ·simp only [h4];exact hm.own k0 o0 h3 (by rw [h5];exact how)
    ·rcases rep k o hk with h0 | ⟨k0,o0,h3,h4,h5,h6⟩
     ·simp only [h0] at hx;simp at hx
     ·rcases rep k' o' hk' with h0 | ⟨k1,o1,g3,g4,g5,g6⟩
      ·simp only [h0] at hx';simp at hx'
      ·simp only [h4] at hx
       simp only [g4] at hx'
       refine hm.dis k0 k1 o0 o1 ?_ h3 g3 (by rw [h5];exact how) x hx hx'
       rcases h6 with ⟨q1,rfl⟩ | ⟨a,rfl,q2⟩
       ·
        rw [KR hkok q1] at hk
        obtain ⟨_,cs0,rfl⟩:=LM hk
        cases how
       ·rcases g6 with ⟨r1,rfl⟩ | ⟨b,rfl,r2⟩
        ·intro he
         subst he
         have:=OY h3 (by rw [h5];exact how)
         have:=(hm.kok.lt _ (HO this)).1
         simp at this;omega
        ·intro he
         subst he
         exact T3 hc.1 (fun he=>hne (by rw [he])) q2 r2
    ·obtain ⟨k1,k2,k3,k4⟩:=UQ (vs:=v1++v2) (i:=0) hJC h1 g1 s1.app.1
     have hes:=bY (hs:=J.ts) hm (Y4 hE L)
     have hall:=k4 _ (GW hes hpv.1)
     have hpl:(proj L env1).length=L.length:=by simp [proj]
     have h1':=I7 L.length hall
     have h2':=JM L.length hall
     rw [←hpl,List.take_left,hpl] at h1'
     rw [←hpl,List.drop_left,hpl] at h2'
     refine ⟨fun t=>cN (fun u=>trivial) (by rw [←F6 h1'];exact hpl) h1' fun n u hu=> ?_,h2', ?_⟩
     ·rw [Nat.zero_add]
      simp [nx,List.getD_eq_getElem?_getD,hu]
     ·rw [aI, ←Nat.eq_of_beq_eq_true hfl.2, ←aQ (n0:=n0) (vs:=v1++v2) (i:=0) (hs:=J.ts),List.drop_left]
      exact XA hfl.1
   ·cases ho
  ·exact h.elim
 ·exact h.elim
end Go.Proofs.Ytklmcfpgdfibnaa.Eng
namespace Go.Proofs.Ytklmcfpgdfibnaa.Eng
open Go Go.RowKit
set_option linter.unusedVariables false
set_option linter.unusedSimpArgs false
set_option linter.constructorNameAsVariable false
def xD (B:Bas) (ro:List (List T)) (pv:List Value) (κ2:cL) (κ1:Kap):Prop:= ∀e m env pins env1,κ2 e ⟨m.ob,m.nk,env,pins⟩→Mem B ro m→HS ro m env env1→NQ ro m pins pv→κ1 e env1 m.s
theorem pV {ro:List (List T)} {m:Mst} {env:DR} {env1:Env} (hE:HS ro m env env1) (L:List Nat):HS ro m (S5 L (aL L env)) (inj L 0 (proj L env1)):=fun t=>
 cN (R:=E0R ro m) (fun _=>trivial) (by simp [aL]) (Y4 hE L) (fun n u h=>by
  rw [Nat.zero_add]
  unfold nx
  rw [List.getD_eq_getElem?_getD,h];rfl)
theorem cX {C:Ctx} {F1:(List Value→Q)→List Value→Q} {xs1:List Value} {s:St} (h: ∀R:List Value→Q,(∀xs s,F1 R xs s→R xs s)→R xs1 s):WZ F1 xs1 s:=h
theorem EA {C:Ctx} {B:Bas} {ro:List (List T)} {sgs:List (Nat×Sg)} {an:List (Nat×List Nat)} {js:List (Nat×JS)} {rm nt:Nat} {pv:List Value}: ∀(c:Code) (pos:Nat) (m:Mst) (env:DR) (pins:List E0) (env1:Env) (lo:Nat) (exs:List (Nat×Nat)) (κ2:cL) (κ1:Kap),Mem B ro m→HS ro m env env1→NQ ro m pins pv→xD B ro pv κ2 κ1→
  J5 C sgs ro an js rm nt c pos ⟨m.ob,m.nk,env,pins⟩ lo exs κ2→exec C an rm nt c env1 lo exs κ1 m.s
 | .skip,pos,m,env,pins,env1,lo,exs,κ2,κ1,hm,hE,hP,hK,h=>hK .nor m env pins env1 h hm hE hP
 | .region id ops false,pos,m,env,pins,env1,lo,exs,κ2,κ1,hm,hE,hP,hK,h=>by
   simp only [exec]
   exact U9 (K:=fun ob nk env=>κ2 .nor ⟨ob,nk,env,pins⟩) (Φ:=fun m=>NQ ro m pins pv) (fun m m' aff kl h hn=>h.next hn) (fun m env env1 h hm hE hP=>hK .nor m env pins env1 h hm hE hP) _ m env env1 hm hE hP h
 | .region id ops true,pos,m,env,pins,env1,lo,exs,κ2,κ1,hm,hE,hP,hK,h=>by
   simp only [J5] at h
   simp only [exec]
   split at h
   ·exact h.elim
   ·rename_i L hl
    simp only [hl]
    split at h
    ·rename_i hd
     simp only [hd]
     exact IE (K:=fun ob nk env=>κ2 .nor ⟨ob,nk,env,pins⟩) (Φ:=fun m=>NQ ro m pins pv) (fun m m' aff kl h hn=>h.next hn) (fun m env env1 h hm hE hP=>hK .nor m env pins env1 h hm hE hP) _ 0 m env env1 [] [] [] [] hm hE trivial trivial hP h
    ·exact h.elim
 | .seq a b,pos,m,env,pins,env1,lo,exs,κ2,κ1,hm,hE,hP,hK,h=>by
   simp only [J5] at h
   simp only [exec]
   split at h
   ·rename_i he
    simp only [he]
    refine EA a _ m env pins env1 _ _ _ _ hm hE hP (fun e m' env' pins' env1' h' hm' hE' hP'=> ?_) h
    cases e with
    | nor=>exact EA b _ m' env' pins' env1' _ _ _ _ hm' hE' hP' hK h'
    | ext i=>exact hK (.ext i) m' env' pins' env1' h' hm' hE' hP'
    | rt=>exact hK .rt m' env' pins' env1' h' hm' hE' hP'
   ·rename_i he
    simp only [he]
    split at h
    ·simp only [fN]
     refine EA a _ m env pins env1 _ _ _ _ hm hE hP (fun e m' env' pins' env1' h' hm' hE' hP'=> ?_) h
     cases e with
     | nor=>exact EA b _ m' _ pins' _ _ _ _ _ hm' (pV hE' _) hP' hK h'
     | ext i=>exact hK (.ext i) m' env' pins' env1' h' hm' hE' hP'
     | rt=>exact hK .rt m' env' pins' env1' h' hm' hE' hP'
    ·rename_i J hJ
     simp only [BK,fN] at h ⊢
     refine EA a _ m env pins env1 _ _ _ _ hm hE hP (fun e m' env' pins' env1' h' hm' hE' hP'=> ?_) h
     cases e with
     | nor=>
       obtain ⟨xs,cs,g1,A',g2,g3,g4⟩:=QA (L:=bitsOf (live rm b lo exs) nt) hm' hE' hP' hm.kok.ro h'
       exact EA b _ ⟨m'.s,_,_,A'⟩ _ _ _ _ _ _ _ g2 g3 g4 hK g1
     | ext i=>exact hK (.ext i) m' env' pins' env1' h' hm' hE' hP'
     | rt=>exact hK .rt m' env' pins' env1' h' hm' hE' hP'
 | .cond c x y,pos,m,env,pins,env1,lo,exs,κ2,κ1,hm,hE,hP,hK,h=>by
   simp only [J5] at h
   simp only [exec]
   split at h
   ·rename_i v hv
    have hc:=FD hE (fun g w h=>by simp [PM] at h) hv
    rcases h with ⟨h1,h2⟩ | ⟨h1,h2⟩
    ·exact .inl ⟨by rw [hc,h1],EA x _ m env pins env1 _ _ _ _ hm hE hP hK h2⟩
    ·exact .inr ⟨by rw [hc,h1],EA y _ m env pins env1 _ _ _ _ hm hE hP hK h2⟩
   ·exact h.elim
 | .block id c,pos,m,env,pins,env1,lo,exs,κ2,κ1,hm,hE,hP,hK,h=>by
   simp only [J5] at h
   simp only [exec]
   refine EA c _ m env pins env1 _ _ _ _ hm hE hP (fun e m' env' pins' env1' h' hm' hE' hP'=> ?_) h
   cases e with
   | nor=>exact hK .nor m' env' pins' env1' h' hm' hE' hP'
   | ext i=>
     simp only [rB] at h'
     simp only [m4]
     cases hi:Nat.beq i id with
     | true=>rw [hi] at h';exact hK .nor m' env' pins' env1' h' hm' hE' hP'
     | false=>rw [hi] at h';exact hK (.ext i) m' env' pins' env1' h' hm' hE' hP'
   | rt=>exact hK .rt m' env' pins' env1' h' hm' hE' hP'
 | .loop c,pos,m,env,pins,env1,lo,exs,κ2,κ1,hm,hE,hP,hK,h=>by
   simp only [J5] at h
   simp only [exec]
   split at h
   ·exact h.elim
   ·rename_i J hJ
    obtain ⟨xs,cs,g1,A',g2,g3,g4⟩:=QA (L:=bitsOf (live rm (.loop c) 0 exs) nt) hm hE hP hm.kok.ro h
    refine cX (C:=C) fun R hR=> ?_
    have key:=g1 (fun xs cs=> ∀(A':Nat→Asg) (s:St) (ys:List Value),Mem B ro ⟨s,(inJ J (bitsOf (live rm (.loop c) 0 exs) nt) m.nk xs cs).ob,(inJ J (bitsOf (live rm (.loop c) 0 exs) nt) m.nk xs cs).nk,A'⟩→
      HS ro ⟨s,(inJ J (bitsOf (live rm (.loop c) 0 exs) nt) m.nk xs cs).ob,(inJ J (bitsOf (live rm (.loop c) 0 exs) nt) m.nk xs cs).nk,A'⟩ (inJ J (bitsOf (live rm (.loop c) 0 exs) nt) m.nk xs cs).env (inj (bitsOf (live rm (.loop c) 0 exs) nt) 0 ys)→NQ ro ⟨s,(inJ J (bitsOf (live rm (.loop c) 0 exs) nt) m.nk xs cs).ob,(inJ J (bitsOf (live rm (.loop c) 0 exs) nt) m.nk xs cs).nk,A'⟩ (inJ J (bitsOf (live rm (.loop c) 0 exs) nt) m.nk xs cs).pins pv→R ys s) ?_
    ·exact key A' m.s _ g2 g3 g4
    ·intro xs' cs' hbody A2 s2 ys hm2 hE2 hP2
     refine hR ys s2 ?_
     refine EA c _ ⟨s2,_,_,A2⟩ _ _ _ _ _ _ _ hm2 hE2 hP2 (fun e m' env' pins' env1' h' hm' hE' hP'=> ?_) hbody
     cases e with
     | nor=>
       obtain ⟨xs3,cs3,k1,A3,k2,k3,k4⟩:=QA (L:=bitsOf (live rm (.loop c) 0 exs) nt) hm' hE' hP' hm.kok.ro h'
       exact k1 A3 m'.s _ k2 k3 k4
     | ext i=>exact hK (.ext i) m' env' pins' env1' h' hm' hE' hP'
     | rt=>exact hK .rt m' env' pins' env1' h' hm' hE' hP'
 | .exit id,pos,m,env,pins,env1,lo,exs,κ2,κ1,hm,hE,hP,hK,h=>hK (.ext id) m env pins env1 h hm hE hP
 | .ret,pos,m,env,pins,env1,lo,exs,κ2,κ1,hm,hE,hP,hK,h=>hK .rt m env pins env1 h hm hE hP
end Go.Proofs.Ytklmcfpgdfibnaa.Eng
namespace Go.Proofs.Ytklmcfpgdfibnaa.Eng
open Go Go.RowKit
set_option linter.unusedVariables false
set_option linter.unusedSimpArgs false
set_option linter.constructorNameAsVariable false
theorem uL {B:Bas} {ro:List (List T)} {m:Mst} (hm:Mem B ro m) {k e off n:Nat} {c:List T} {u:Value} (hl:AV ro m.ob k=some (.ls true c)) (hr:E0R ro m (.s k [] off n e) u): ∃F,TR m.s true (.l e (GB c [] off (n*e))) u F∧F.Sublist (m.A k).F:=by
 obtain ⟨_,_,hr⟩:=hr
 rcases hr _ _ hl with ⟨rfl,rfl⟩ | ⟨ds,h,b,h1,h2,h3,h4,rfl⟩
 ·refine ⟨[],GA.2 (.inl ⟨rfl, ?_,rfl⟩),List.nil_sublist _⟩
  unfold GB;simp [node]
 ·obtain ⟨F,hw,hF⟩:=hm.node hl h3 h1 h4
  obtain ⟨F',hw',hF'⟩:=hw.sub h2
  have hs:GB c [] off (n*e)=(ds.drop off).take (n*e):=by unfold GB;rw [h1]
  refine ⟨F',GA.2 (.inr ⟨h,b+off,n,rfl, ?_,by rw [hs];exact hw'⟩),hF'.trans hF⟩
  rw [hs,List.length_take,List.length_drop];omega
theorem Mov.add {B:Bas} {ro:List (List T)} {m:Mst} (hm:Mem B ro m) {k:Nat} {o:Ob2} {F Fn dl:List Nat} (hk:AV ro m.ob k=some o) (how:FL o=true) (hF:F.Sublist (m.A k).F) (h:Mov m dl Fn) (hd: ∀j∈dl, ∃o,AV ro m.ob j=some o) (hkd:k∉dl):Mov m (dl++[k]) (F++Fn):=by
 refine ⟨List.nodup_append.2 ⟨hF.nodup (hm.own k o hk how).1,h.nd,fun y hy z hz he=> ?_⟩,fun y hy=> ?_⟩
 ·subst he
  obtain ⟨j,hj,hjy⟩:=h.fr y hz
  obtain ⟨o2,ho2⟩:=hd j hj
  exact hm.dis k j o o2 (fun he=>hkd (he ▸ hj)) hk ho2 how y (hF.subset hy) hjy
 ·rcases List.mem_append.1 hy with hy | hy
  ·exact ⟨k,by simp,hF.subset hy⟩
  ·obtain ⟨j,hj,hjy⟩:=h.fr y hy;exact ⟨j,by simp [hj],hjy⟩
theorem KG {B:Bas} {ro:List (List T)} {m:Mst} {sids:List (Nat×Nat)} {sv:List Value} (hm:Mem B ro m): ∀(rcs:List RC) (xs:List E0) (us:List Value) (ob ob':Obs) (v:List Value) (c:List (List T)) (dl:List Nat),(∀j,RC.a j∈rcs→ ∀k e,sids.getD j (k+1,0)=(k,e)→k<ro.length→ ∃w,sv[j]? =some w∧E0R ro m (.t k e) w)→
  FU ro m.ob ob m.nk dl→K7 ro.length sids rcs xs ob=some (v,c,ob')→CO (E0R ro m) xs us→
  ∃dl' M1,FU ro m.ob ob' m.nk (dl'++dl)∧MR m.s sv rcs us v c M1∧Mov m dl' M1∧ ∀k∈dl',k∉dl
 | [],[],us,ob,ob',v,c,dl,_,hg,h,ha=>by
   simp only [K7,Option.some.injEq,Prod.mk.injEq] at h
   obtain ⟨rfl,rfl,rfl⟩:=h
   cases us with
   | nil=>exact ⟨[],[],hg,by simp [MR],Mov.nil m,fun k hk=>by simp at hk⟩
   | cons _ _=>exact ha.elim
 | [],x::xs,us,ob,ob',v,c,dl,_,hg,h,ha=>by simp [K7] at h
 | r0::r,[],us,ob,ob',v,c,dl,_,hg,h,ha=>by cases r0 <;> simp [K7] at h
 | r0::r,x::xs,[],ob,ob',v,c,dl,_,hg,h,ha=>ha.elim
 | .v::r,x::xs,u::us,ob,ob',v,c,dl,hA,hg,h,ha=>by
   cases x <;> simp only [K7,reduceCtorEq] at h
   simp only [Option.map_eq_some_iff] at h
   obtain ⟨p,h1,h2⟩:=h
   cases h2
   obtain ⟨dl',M1,g1,g2,g3,g4⟩:=KG hm r xs us ob _ _ _ dl (fun j hj=>hA j (by simp [hj])) hg h1 ha.2
   exact ⟨dl',M1,g1,by simp only [MR];exact ⟨u,us,_,rfl,by rw [ha.1.1],by rw [ha.1.1];exact ha.1.2,g2⟩,g3,g4⟩
 | .t e::r,x::xs,u::us,ob,ob',v,c,dl,hA,hg,h,ha=>by
   have hA': ∀j,RC.a j∈r→ ∀k e,sids.getD j (k+1,0)=(k,e)→k<ro.length→ ∃w,sv[j]? =some w∧E0R ro m (.t k e) w:=fun j hj=>hA j (by simp [hj])
   cases x with
   | z=>
     simp only [K7,Option.map_eq_some_iff] at h
     obtain ⟨p,h1,h2⟩:=h
     cases h2
     obtain ⟨dl',M1,g1,g2,g3,g4⟩:=KG hm r xs us ob _ _ _ dl hA' hg h1 ha.2
     exact ⟨dl',M1,g1,by simp only [MR];exact ⟨u,us,[],_,[],M1,rfl,rfl,GA.2 (.inl ⟨ha.1,rfl,rfl⟩),rfl,g2⟩,g3,g4⟩
   | t k e'=>
     simp only [K7] at h
     split at h
     ·rename_i hb hl
      have:=Nat.eq_of_beq_eq_true hb;subst this
      simp only [Option.map_eq_some_iff] at h
      obtain ⟨p,h1,h2⟩:=h
      cases h2
      obtain ⟨hkd,hkm⟩:=hg.at hl
      obtain ⟨dl',M1,g1,g2,g3,g4⟩:=KG hm r xs us _ _ _ _ (k::dl) hA' (hg.del hl rfl) h1 ha.2
      refine ⟨dl'++[k],(m.A k).F++M1,by simpa using g1,by simp only [MR];exact ⟨u,us,_,_,_,M1,rfl,rfl,YG hm hkm ha.1,rfl,g2⟩,g3.add hm hkm rfl (List.Sublist.refl _) (fun j hj=>by obtain ⟨o,ho,_⟩:=g1.own j (by simp [hj]);exact ⟨o,ho⟩) (fun hk=>g4 k hk (by simp)),fun j hj=> ?_⟩
      rcases List.mem_append.1 hj with hj | hj
      ·exact fun hd=>g4 j hj (by simp [hd])
      ·rw [List.mem_singleton.1 hj];exact hkd
     ·cases h
   | s k pre off n e'=>
     cases pre with
     | cons _ _=>simp [K7] at h
     | nil=>
     simp only [K7] at h
     split at h
     ·rename_i hb hl
      have:=Nat.eq_of_beq_eq_true hb;subst this
      simp only [Option.map_eq_some_iff] at h
      obtain ⟨p,h1,h2⟩:=h
      cases h2
      obtain ⟨hkd,hkm⟩:=hg.at hl
      obtain ⟨F,hF1,hF2⟩:=uL hm hkm ha.1
      obtain ⟨dl',M1,g1,g2,g3,g4⟩:=KG hm r xs us _ _ _ _ (k::dl) hA' (hg.del hl rfl) h1 ha.2
      refine ⟨dl'++[k],F++M1,by simpa using g1,by simp only [MR];exact ⟨u,us,_,_,_,M1,rfl,rfl,hF1,rfl,g2⟩,g3.add hm hkm rfl hF2 (fun j hj=>by obtain ⟨o,ho,_⟩:=g1.own j (by simp [hj]);exact ⟨o,ho⟩) (fun hk=>g4 k hk (by simp)),fun j hj=> ?_⟩
      rcases List.mem_append.1 hj with hj | hj
      ·exact fun hd=>g4 j hj (by simp [hd])
      ·rw [List.mem_singleton.1 hj];exact hkd
     ·cases h
   | _=>simp [K7] at h
 | .a j::r,x::xs,u::us,ob,ob',v,c,dl,hA,hg,h,ha=>by
   cases x <;> simp only [K7,reduceCtorEq] at h
   rename_i k e
   split at h
   ·rename_i hb
    simp only [Bool.and_eq_true] at hb
    obtain ⟨dl',M1,g1,g2,g3,g4⟩:=KG hm r xs us ob _ _ _ dl (fun j hj=>hA j (by simp [hj])) hg h ha.2
    have e1:=Nat.eq_of_beq_eq_true hb.1.1
    have e2:=Nat.eq_of_beq_eq_true hb.1.2
    have hk:k<ro.length:=Nat.le_of_ble_eq_true hb.2
    obtain ⟨w,hw1,hw2⟩:=hA j (by simp) k e (Prod.ext e1.symm e2.symm) hk
    have key:sv[j]? =some u:=by
     rw [hw1]
     obtain ⟨o,ho⟩:=SR hk
     obtain ⟨_,cs,rfl⟩:=LM ho
     have hlk:AV ro m.ob k=some (.ls false cs):=by rw [KR hm.kok hk];exact ho
     obtain ⟨_,_,hpos,hu⟩:=ha.1
     obtain ⟨_,_,_,hw⟩:=hw2
     rcases hu _ _ hlk with ⟨rfl,h1⟩ | ⟨n,h1,h2,rfl⟩
     ·rcases hw _ _ hlk with ⟨rfl,_⟩ | ⟨n',h3,_⟩
      ·rfl
      ·rw [h1] at h3;cases h3
     ·rcases hw _ _ hlk with ⟨_,h3⟩ | ⟨n',_,h3,rfl⟩
      ·rw [h1] at h3;cases h3
      ·rw [h2] at h3
       have:=Nat.eq_of_mul_eq_mul_right hpos h3
       rw [this]
    refine ⟨dl',M1,g1, ?_,g3,g4⟩
    simp only [MR]
    exact ⟨u,us,rfl,key,g2⟩
   ·cases h
def cI (ro:List (List T)) (m:Mst) (sids:List (Nat×Nat)) (sv:List Value):Prop:= ∀j k e,sids.getD j (k+1,0)=(k,e)→k<ro.length→ ∃w,sv[j]? =some w∧E0R ro m (.t k e) w
theorem qA {B:Bas} {ro:List (List T)} {m:Mst} {sids:List (Nat×Nat)} {sv:List Value} (hm:Mem B ro m) {w:Nat} {k:List RC} {e:EV} {a:Value} {ob ob':Obs} {v:List Value} {c:List (List T)} {dl:List Nat} (hA:(∃j,RC.a j∈k)→cI ro m sids sv)
  (hg:FU ro m.ob ob m.nk dl) (h:tE ro.length sids w k e ob=some (v,c,ob')) (ha:EVR (E0R ro m) e a):
  ∃dl' us M1 M2,FU ro m.ob ob' m.nk (dl'++dl)∧MR m.s sv k us v c M1∧Mov m dl' M2∧(∀k∈dl',k∉dl)∧MG a=true∧(match w with
   | 0=>us=[a]∧M2=M1
   | 1=>a= .agg us.toArray∧M2=M1
   | _=> ∃h,a=pt h 0∧m.s.get h=some ⟨us,true⟩∧M2=h::M1):=by
 have hA': ∀j,RC.a j∈k→ ∀k e,sids.getD j (k+1,0)=(k,e)→k<ro.length→ ∃w,sv[j]? =some w∧E0R ro m (.t k e) w:=fun j hj=>hA ⟨j,hj⟩ j
 unfold tE at h
 split at h
 ·rename_i x
  obtain ⟨dl',M1,g1,g2,g3,g4⟩:=KG hm k [x] [a] ob ob' v c dl hA' hg h ⟨ha,trivial⟩
  refine ⟨dl',[a],M1,M1,g1,g2,g3,g4, ?_,rfl,rfl⟩
  have one_nt: ∀{a:Value},one a=true→MG a=true:=fun {a} h=>by cases a <;> simp [one] at h <;> rfl
  have hno: ∀{y:E0},(y= .w∨ ∃q,y= .q q)→K7 ro.length sids k [y] ob=none:=fun {y} hy=>by
   rcases hy with rfl | ⟨q,rfl⟩
   ·cases k with
    | nil=>rfl
    | cons r0 r=>cases r0 <;> rfl
   ·cases k with
    | nil=>rfl
    | cons r0 r=>cases r0 <;> rfl
  cases x with
  | v b=>have ha1:=ha.1;have ha2:=ha.2;subst ha1;cases a <;> simp [plain] at ha2 <;> rfl
  | q b=>rw [hno (.inr ⟨b,rfl⟩)] at h;cases h
  | z=>have ha1:a=nl:=ha;rw [ha1];rfl
  | w=>rw [hno (.inl rfl)] at h;cases h
  | p _ _=>exact one_nt ha.2.1
  | e _ _ _=>exact one_nt ha.2.1
  | s _ _ _ _ _=>exact one_nt ha.2.1
  | t _ _=>exact one_nt ha.2.1
  | n _ _ _=>exact one_nt ha.2.1
  | a _ _ _ _=>exact one_nt ha.2.1
 ·rename_i xs
  obtain ⟨us,rfl,hx⟩:=ha
  obtain ⟨dl',M1,g1,g2,g3,g4⟩:=KG hm k xs us ob ob' v c dl hA' hg h hx
  exact ⟨dl',us,M1,M1,g1,g2,g3,g4,rfl,rfl,rfl⟩
 ·rename_i b
  obtain ⟨xs,hl,h⟩: ∃xs,BT ob b=some (.bx xs)∧K7 ro.length sids k xs (KY ob b)=some (v,c,ob'):=by
   cases hl:BT ob b with
   | none=>rw [hl] at h;cases h
   | some o=>cases o with
     | bx xs=>rw [hl] at h;exact ⟨xs,rfl,h⟩
     | ls o cs=>rw [hl] at h;cases h
  ·skip
   obtain ⟨hbd,hbm⟩:=hg.at hl
   obtain ⟨hF,us,hgt,hx⟩:=hm.obr b _ hbm
   obtain ⟨dl',M1,g1,g2,g3,g4⟩:=KG hm k xs us _ ob' v c (b::dl) hA' (hg.del hl rfl) h hx
   refine ⟨dl'++[b],us,M1,(m.A b).h::M1,by simpa using g1,g2, ?_,fun j hj=> ?_, ?_,(m.A b).h,ha.2.2 xs hbm,hgt,rfl⟩
   ·have:=g3.add hm hbm rfl (F:=[(m.A b).h]) (by rw [hF];exact List.Sublist.refl _) (fun j hj=>by obtain ⟨o,ho,_⟩:=g1.own j (by simp [hj]);exact ⟨o,ho⟩) (fun hk=>g4 b hk (by simp))
    exact this
   ·rcases List.mem_append.1 hj with hj | hj
    ·exact fun hd=>g4 j hj (by simp [hd])
    ·rw [List.mem_singleton.1 hj];exact hbd
   ·rw [ha.2.2 xs hbm];rfl
 ·cases h
theorem Mov.app {B:Bas} {ro:List (List T)} {m:Mst} (hm:Mem B ro m) {d1 d2 F1 F2:List Nat} (h1:Mov m d1 F1) (h2:Mov m d2 F2) (hd: ∀k∈d2,k∉d1) (ho: ∀k,k∈d1∨k∈d2→ ∃o,AV ro m.ob k=some o∧FL o=true):Mov m (d2++d1) (F1++F2):=by
 refine ⟨List.nodup_append.2 ⟨h1.nd,h2.nd,fun y hy z hz he=> ?_⟩,fun y hy=> ?_⟩
 ·subst he
  obtain ⟨j,hj,hjy⟩:=h1.fr y hy
  obtain ⟨k,hk,hky⟩:=h2.fr y hz
  obtain ⟨o1,ho1,how⟩:=ho j (.inl hj)
  obtain ⟨o2,ho2,_⟩:=ho k (.inr hk)
  exact hm.dis j k o1 o2 (fun he=>hd k hk (he ▸ hj)) ho1 ho2 how y hjy hky
 ·rcases List.mem_append.1 hy with hy | hy
  ·obtain ⟨j,hj,hjy⟩:=h1.fr y hy;exact ⟨j,by simp [hj],hjy⟩
  ·obtain ⟨j,hj,hjy⟩:=h2.fr y hy;exact ⟨j,by simp [hj],hjy⟩
theorem iE {B:Bas} {ro:List (List T)} {m:Mst} {sids:List (Nat×Nat)} {sv:List Value} (hm:Mem B ro m): ∀(rs:List (Nat×List RC)) (es:List EV) (as:List Value) (ob ob':Obs) (v:List Value) (c:List (List T)) (dl:List Nat),((∃p∈rs, ∃j,RC.a j∈p.2)→cI ro m sids sv)→
  FU ro m.ob ob m.nk dl→dH ro.length sids rs es ob=some (v,c,ob')→TN (EVR (E0R ro m)) es as→
  ∃dl' M1,FU ro m.ob ob' m.nk (dl'++dl)∧WR m.s sv rs as v c M1∧Mov m dl' M1∧(∀k∈dl',k∉dl)∧ ∀a∈as,MG a=true
 | [],[],as,ob,ob',v,c,dl,_,hg,h,ha=>by
   simp only [dH,Option.some.injEq,Prod.mk.injEq] at h
   obtain ⟨rfl,rfl,rfl⟩:=h
   cases as with
   | nil=>exact ⟨[],[],hg,by simp [WR],Mov.nil m,fun k hk=>by simp at hk,fun a ha=>by simp at ha⟩
   | cons _ _=>exact ha.elim
 | [],e::es,as,ob,ob',v,c,dl,_,hg,h,ha=>by simp [dH] at h
 | (w,k)::r,[],as,ob,ob',v,c,dl,_,hg,h,ha=>by simp [dH] at h
 | (w,k)::r,e::es,[],ob,ob',v,c,dl,_,hg,h,ha=>ha.elim
 | (w,k)::r,e::es,a::as,ob,ob',v,c,dl,hA,hg,h,ha=>by
   simp only [dH,Option.bind_eq_some_iff,Option.map_eq_some_iff] at h
   obtain ⟨⟨v1,c1,ob1⟩,h1,⟨v2,c2,ob2⟩,h2,h3⟩:=h
   cases h3
   obtain ⟨d1,us,M1,M2,g1,g2,g3,g4,g5,g6⟩:=qA hm (fun ⟨j,hj⟩=>hA ⟨(w,k),by simp,j,hj⟩) hg h1 ha.1
   obtain ⟨d2,M3,f1,f2,f3,f4,f5⟩:=iE hm r es as ob1 ob2 v2 c2 (d1++dl) (fun ⟨p,hp,hj⟩=>hA ⟨p,by simp [hp],hj⟩) g1 h2 ha.2
   refine ⟨d2++d1,M2++M3,by rw [List.append_assoc];exact f1, ?_,g3.app hm f3 (fun k hk=>fun hd=>f4 k hk (by simp [hd])) (fun k hk=>f1.own k (by rcases hk with hk | hk <;> simp [hk])),fun k hk=> ?_,fun b hb=> ?_⟩
   ·simp only [WR]
    refine ⟨a,as,us,v1,v2,c1,c2,M1,M3,rfl,rfl,rfl,g2,f2, ?_⟩
    rcases w with _ | _ | n
    ·exact ⟨g6.1,by rw [g6.2]⟩
    ·exact ⟨g6.1,by rw [g6.2]⟩
    ·obtain ⟨h,q1,q2,q3⟩:=g6;exact ⟨h,q1,q2,by rw [q3];rfl⟩
   ·rcases List.mem_append.1 hk with hk | hk
    ·exact fun hd=>f4 k hk (by simp [hd])
    ·exact g4 k hk
   ·rcases List.mem_cons.1 hb with rfl | hb
    ·exact g5
    ·exact f5 b hb
end Go.Proofs.Ytklmcfpgdfibnaa.Eng
namespace Go.Proofs.Ytklmcfpgdfibnaa.Eng
open Go Go.RowKit
set_option linter.unusedVariables false
set_option linter.unusedSimpArgs false
set_option linter.constructorNameAsVariable false
def bpV:List (Nat×List CS)→List Value→List Value
 | (2,_)::r,a::as=>a::bpV r as
 | _::r,_::as=>bpV r as
 | _,_=>[]
def muV:List CS→List Value→List Value
 | .v::r,sv=>muV r sv
 | .t _ 1::r,u::sv=>u::muV r sv
 | .t _ _::r,_::sv=>muV r sv
 | _,_=>[]
theorem UB {B:Bas} {ro:List (List T)} {m:Mst} {sids:List (Nat×Nat)} {sv:List Value} (hm:Mem B ro m): ∀(ps:List (Nat×List CS)) (as:List Value) (bs:List (List RC)) (pins:List E0) (ob ob':Obs) (v:List Value) (c:List (List T)) (dl:List Nat),((∃p∈bs, ∃j,RC.a j∈p)→cI ro m sids sv)→ps.length=as.length→(∀p∈ps,p.1≤2)→
  FU ro m.ob ob m.nk dl→WT ro.length sids bs pins ob=some (v,c,ob')→CO (E0R ro m) pins (bpV ps as)→
  ∃dl' M1,FU ro m.ob ob' m.nk (dl'++dl)∧RR m.s sv ps as bs v c M1∧Mov m dl' M1∧ ∀k∈dl',k∉dl
 | [],[],bs,pins,ob,ob',v,c,dl,_,_,_,hg,h,ha=>by
   cases pins with
   | cons _ _=>exact ha.elim
   | nil=>
     cases bs with
     | cons _ _=>simp [WT] at h
     | nil=>
       simp only [WT,Option.some.injEq,Prod.mk.injEq] at h
       obtain ⟨rfl,rfl,rfl⟩:=h
       exact ⟨[],[],hg,by simp [RR],Mov.nil m,fun k hk=>by simp at hk⟩
 | [],a::as,bs,pins,ob,ob',v,c,dl,_,hl,_,_,_,_=>by simp at hl
 | p::ps,[],bs,pins,ob,ob',v,c,dl,_,hl,_,_,_,_=>by simp at hl
 | (w,k)::ps,a::as,bs,pins,ob,ob',v,c,dl,hA,hl,hw,hg,h,ha=>by
   have hw2:=hw (w,k) (by simp)
   match w,hw2,ha with
   | 0,_,ha=>
     obtain ⟨dl',M1,g1,g2,g3,g4⟩:=UB hm ps as bs pins ob ob' v c dl hA (by simpa using hl) (fun p hp=>hw p (by simp [hp])) hg h (by simpa [bpV] using ha)
     exact ⟨dl',M1,g1,by simp only [RR];exact ⟨a,as,rfl,g2⟩,g3,g4⟩
   | 1,_,ha=>
     obtain ⟨dl',M1,g1,g2,g3,g4⟩:=UB hm ps as bs pins ob ob' v c dl hA (by simpa using hl) (fun p hp=>hw p (by simp [hp])) hg h (by simpa [bpV] using ha)
     exact ⟨dl',M1,g1,by simp only [RR];exact ⟨a,as,rfl,g2⟩,g3,g4⟩
   | 2,_,ha=>
     simp only [bpV] at ha
     cases pins with
     | nil=>exact ha.elim
     | cons x pins=>
       obtain ⟨hx,har⟩:=ha
       cases bs with
       | nil=>simp [WT] at h
       | cons b bs=>
         obtain ⟨bb,rfl,xs,hlb,h⟩: ∃bb,x= .p bb 0∧ ∃xs,BT ob bb=some (.bx xs)∧((K7 ro.length sids b xs (KY ob bb)).bind fun p=>(WT ro.length sids bs pins p.2.2).map fun q=>(p.1++q.1,p.2.1++q.2.1,q.2.2))=some (v,c,ob'):=by
          cases x <;> try (simp [WT] at h;done)
          rename_i bb off
          cases off with
          | succ n=>simp [WT] at h
          | zero=>
            simp only [WT] at h
            cases hl:BT ob bb with
            | none=>rw [hl] at h;cases h
            | some o=>cases o with
              | bx xs=>rw [hl] at h;exact ⟨bb,rfl,xs,hl,h⟩
              | ls _ _=>rw [hl] at h;cases h
         simp only [Option.bind_eq_some_iff,Option.map_eq_some_iff] at h
         obtain ⟨⟨v1,c1,ob1⟩,h1,⟨v2,c2,ob2⟩,h2,h3⟩:=h
         cases h3
         obtain ⟨hbd,hbm⟩:=hg.at hlb
         obtain ⟨hF,us,hgt,hxs⟩:=hm.obr bb _ hbm
         obtain ⟨d1,M1,g1,g2,g3,g4⟩:=KG hm b xs us _ ob1 v1 c1 (bb::dl) (fun j hj=>hA ⟨b,by simp,j,hj⟩ j) (hg.del hlb rfl) h1 hxs
         obtain ⟨d2,M2,f1,f2,f3,f4⟩:=UB hm ps as bs pins ob1 ob2 v2 c2 (d1++bb::dl) (fun ⟨p,hp,hj⟩=>hA ⟨p,by simp [hp],hj⟩) (by simpa using hl) (fun p hp=>hw p (by simp [hp])) g1 h2 har
         have hm1:Mov m (d1++[bb]) ((m.A bb).h::M1):=g3.add hm hbm rfl (F:=[(m.A bb).h]) (by rw [hF];exact List.Sublist.refl _) (fun j hj=>by obtain ⟨o,ho,_⟩:=g1.own j (by simp [hj]);exact ⟨o,ho⟩) (fun hk=>g4 bb hk (by simp))
         refine ⟨d2++(d1++[bb]),(m.A bb).h::(M1++M2),by simpa using f1, ?_,hm1.app hm f3 (fun k hk=>fun hd=>f4 k hk (by
          simp only [List.mem_append,List.mem_cons,List.not_mem_nil,or_false] at hd ⊢
          rcases hd with hd | hd
          ·exact .inl hd
          ·exact .inr (.inl hd))) (fun k hk=>f1.own k (by
          simp only [List.mem_append,List.mem_cons,List.not_mem_nil,or_false] at hk ⊢
          rcases hk with (hk | hk) | hk
          ·exact .inr (.inl hk)
          ·exact .inr (.inr (.inl hk))
          ·exact .inl hk)),fun k hk=> ?_⟩
         ·have hpt:=hx.2.2 xs hbm
          simp only [RR]
          exact ⟨(m.A bb).h,as,b,bs,us,v1,v2,c1,c2,M1,M2,by rw [hpt],rfl,rfl,rfl,hgt,g2,f2,rfl⟩
         ·simp at hk
          rcases hk with hk | hk | hk
          ·exact fun hd=>f4 k hk (by simp [hd])
          ·exact fun hd=>g4 k hk (by simp [hd])
          ·rw [hk];exact hbd
theorem RL {B:Bas} {ro:List (List T)} {m:Mst} (hm:Mem B ro m) {s0:St}: ∀(css:List CS) (us vs:List Value) (cs:List (List T)) (sv:List Value) (M0 D0:List Nat) (pins:List E0) (ob:Obs) (l:List (List T)) (dl:List Nat),CP s0 css us vs cs sv M0 D0→
  FU ro m.ob ob m.nk dl→eI pins ob=some l→CO (E0R ro m) pins (muV css sv)→
  ∃dl' M1,(∀k∈dl', ∃o,AV ro m.ob k=some o∧FL o=true)∧PS m.s css sv cs l M1∧Mov m dl' M1∧ ∀k∈dl',k∉dl
 | [],us,vs,cs,sv,M0,D0,pins,ob,l,dl,hc,hg,h,ha=>by
   have:muV [] sv=[]:=by simp [muV]
   rw [this] at ha
   cases pins with
   | cons _ _=>exact ha.elim
   | nil=>
     simp only [eI,Option.some.injEq] at h;subst h
     exact ⟨[],[],fun k hk=>by simp at hk,by simp [PS],Mov.nil m,fun k hk=>by simp at hk⟩
 | .v::r,us,vs,cs,sv,M0,D0,pins,ob,l,dl,hc,hg,h,ha=>by
   simp only [CP] at hc
   obtain ⟨u,us',vs',rfl,rfl,_,hc⟩:=hc
   simp only [muV] at ha
   simp only [PS]
   exact RL hm r us' vs' cs sv M0 D0 pins ob l dl hc hg h ha
 | .t e md::r,us,vs,cs,sv,M0,D0,pins,ob,l,dl,hc,hg,h,ha=>by
   simp only [CP] at hc
   obtain ⟨u,us',c,cs',sv',F,M',D',rfl,rfl,rfl,ht,_,hc⟩:=hc
   match md,ha,ht with
   | 0,ha,_=>
     simp only [muV] at ha
     obtain ⟨dl',M1,g1,g2,g3,g4⟩:=RL hm r us' vs cs' sv' M' D' pins ob l dl hc hg h ha
     exact ⟨dl',M1,g1,by simp only [PS];exact ⟨u,sv',c,cs',rfl,rfl,g2⟩,g3,g4⟩
   | n+2,ha,_=>
     simp only [muV] at ha
     obtain ⟨dl',M1,g1,g2,g3,g4⟩:=RL hm r us' vs cs' sv' M' D' pins ob l dl hc hg h ha
     exact ⟨dl',M1,g1,by simp only [PS];exact ⟨u,sv',c,cs',rfl,rfl,g2⟩,g3,g4⟩
   | 1,ha,ht=>
     simp only [muV] at ha
     cases pins with
     | nil=>exact ha.elim
     | cons x pins=>
       obtain ⟨hx,har⟩:=ha
       obtain ⟨k,e',rfl,c',hl,l',hrest,rfl⟩: ∃k e',x= .t k e'∧ ∃c',BT ob k=some (.ls true c')∧ ∃l',eI pins (KY ob k)=some l'∧l=c'::l':=by
        cases x <;> try (simp [eI] at h;done)
        rename_i k e'
        simp only [eI] at h
        cases hl:BT ob k with
        | none=>rw [hl] at h;cases h
        | some o=>cases o with
          | bx _=>rw [hl] at h;cases h
          | ls o c'=>
            rw [hl] at h
            cases o with
            | false=>cases h
            | true=>
              simp only [Option.map_eq_some_iff] at h
              obtain ⟨l',h1,h2⟩:=h
              exact ⟨k,e',rfl,c',hl,l',h1,h2.symm⟩
       obtain ⟨hkd,hkm⟩:=hg.at hl
       obtain ⟨dl',M1,g1,g2,g3,g4⟩:=RL hm r us' vs cs' sv' M' D' pins _ l' (k::dl) hc (hg.del hl rfl) hrest har
       have key:TR m.s true (.l e c') u (m.A k).F∧c'.length=c.length:=by
        obtain ⟨_,_,_,hx⟩:=hx
        rcases GA.1 ht with ⟨rfl,rfl,_⟩ | ⟨h0,b0,n,rfl,hlen,_⟩
        ·rcases hx _ _ hkm with ⟨_,h1⟩ | ⟨n,_,_,h1⟩
         ·rcases hm.obr k _ hkm with ⟨_,rfl,hF⟩ | ⟨h2,_⟩
          ·exact ⟨by rw [hF];exact GA.2 (.inl ⟨rfl,rfl,rfl⟩),rfl⟩
          ·rw [h1] at h2;cases h2
         ·cases h1
        ·rcases hx _ _ hkm with ⟨h1,_⟩ | ⟨n',h1,h2,h3⟩
         ·cases h1
         ·rcases hm.obr k _ hkm with ⟨h4,_⟩ | ⟨_,hw⟩
          ·rw [h1] at h4;cases h4
          ·cases h3
           exact ⟨GA.2 (.inr ⟨_,_,n,rfl,h2,hw⟩),by rw [h2,hlen]⟩
       refine ⟨dl'++[k],(m.A k).F++M1,fun j hj=> ?_,by simp only [PS];exact ⟨u,sv',c,cs',c',l',_,M1,rfl,rfl,rfl,key.1,key.2,rfl,g2⟩,g3.add hm hkm rfl (List.Sublist.refl _) (fun j hj=>by obtain ⟨o,ho,_⟩:=g1 j hj;exact ⟨o,ho⟩) (fun hk=>g4 k hk (by simp)),fun j hj=> ?_⟩
       ·rcases List.mem_append.1 hj with hj | hj
        ·exact g1 j hj
        ·rw [List.mem_singleton.1 hj];exact ⟨_,hkm,rfl⟩
       ·rcases List.mem_append.1 hj with hj | hj
        ·exact fun hd=>g4 j hj (by simp [hd])
        ·rw [List.mem_singleton.1 hj];exact hkd
theorem VB {B:Bas} {ro:List (List T)} {m:Mst} {P:Program} {env:DR} {env1:Env} {pins:List E0} (hm:Mem B ro m) (hE:HS ro m env env1): ∀(rs:List ResultVar) (es:List EV),QV ⟨m.ob,m.nk,env,pins⟩ P rs=some es→
  ∃as,TN (EVR (E0R ro m)) es as∧ ∀(acc:List Value) (K1:Value→Q),((acc++as).all MG=true∨(acc++as).length=1)→K1 (WB (acc++as)) m.s→K5 P rs acc env1 K1 m.s
 | [],es,h=>by
   simp only [QV,Option.some.injEq] at h;subst h
   refine ⟨[],trivial,fun acc K1 hn hk=> ?_⟩
   rw [List.append_nil] at hn hk
   simp only [K5]
   match acc,hn,hk with
   | [v],_,hk=>exact hk
   | [],hn,hk=>exact ⟨hn.resolve_right (by simp),hk⟩
   | a::b::r,hn,hk=>exact ⟨hn.resolve_right (by simp),hk⟩
 | .tmp t::r,es,h=>by
   simp only [QV,Option.map_eq_some_iff] at h
   obtain ⟨l,h1,rfl⟩:=h
   obtain ⟨as,g1,g2⟩:=VB hm hE r l h1
   refine ⟨lk env1 t::as,⟨XP (fun g w h=>by simp [PM] at h) (hE t),g1⟩,fun acc K1 hn hk=> ?_⟩
   simp only [K5]
   exact g2 (acc++[lk env1 t]) K1 (by simpa using hn) (by simpa using hk)
 | .cell a t::r,es,h=>by
   simp only [QV,Option.bind_eq_some_iff] at h
   obtain ⟨sz,hsz,ag,hag,h⟩:=h
   have hx:=XP (av:=[]) (fun g w h=>by simp [PM] at h) (hE a)
   split at h
   ·rename_i k off he
    rw [he] at hx
    split at h
    ·rename_i xs hl
     split at h
     ·rename_i hb
      simp only [Bool.and_eq_true] at hb
      have hlen:=Nat.eq_of_beq_eq_true hb.1
      have hpos:0<sz:=Nat.le_of_ble_eq_true hb.2
      obtain ⟨us,g1,g2,g3,g4⟩:=lM hm hx hl hlen (.inl (by omega))
      have fin: ∀(e:EV) (v:Value) (l:List EV),QV ⟨m.ob,m.nk,env,pins⟩ P r=some l→EVR (E0R ro m) e v→ld ag sz (lk env1 a) m.s=some (v,m.s)→ ∃as,TN (EVR (E0R ro m)) (e::l) as∧ ∀(acc:List Value) (K1:Value→Q),((acc++as).all MG=true∨(acc++as).length=1)→K1 (WB (acc++as)) m.s→K5 P (.cell a t::r) acc env1 K1 m.s:=by
       intro e v l h1 hev hld
       obtain ⟨as,k1,k2⟩:=VB hm hE r l h1
       refine ⟨v::as,⟨hev,k1⟩,fun acc K1 hn hk=> ?_⟩
       simp only [K5,hsz,hag]
       exact ⟨v,m.s,hld,k2 (acc++[v]) K1 (by simpa using hn) (by simpa using hk)⟩
      cases ag with
      | true=>
        simp only [Option.map_eq_some_iff] at h
        obtain ⟨l,h1,rfl⟩:=h
        exact fin _ _ l h1 ⟨us,rfl,g1⟩ g3
      | false=>
        simp only at h
        split at h
        ·rename_i y hy
         simp only [Option.map_eq_some_iff] at h
         obtain ⟨l,h1,rfl⟩:=h
         rw [hy] at hlen g1
         simp at hlen
         subst hlen
         obtain ⟨v,rfl,g5⟩:=RH g1
         exact fin _ _ l h1 g5 (g4 v rfl rfl)
        ·cases h
     ·cases h
    ·cases h
   ·cases h
end Go.Proofs.Ytklmcfpgdfibnaa.Eng
namespace Go.Proofs.Ytklmcfpgdfibnaa.Eng
open Go Go.RowKit
set_option linter.unusedVariables false
set_option linter.unusedSimpArgs false
set_option linter.constructorNameAsVariable false
theorem QQ {s:St} {k2:List CS} {us2 v2:List Value} {c2:List (List T)} {s2:List Value} {M2 D2:List Nat} (h2:CP s k2 us2 v2 c2 s2 M2 D2): ∀{k1:List CS} {us1 v1:List Value} {c1:List (List T)} {s1:List Value} {M1 D1:List Nat},CP s k1 us1 v1 c1 s1 M1 D1→CP s (k1++k2) (us1++us2) (v1++v2) (c1++c2) (s1++s2) (M1++M2) (D1++D2)
 | [],us1,v1,c1,s1,M1,D1,h=>by
   simp only [CP] at h
   obtain ⟨rfl,rfl,rfl,rfl,rfl,rfl⟩:=h
   exact h2
 | .v::r,us1,v1,c1,s1,M1,D1,h=>by
   simp only [CP] at h
   obtain ⟨u,us',vs',rfl,rfl,hp,h⟩:=h
   simp only [List.cons_append,CP]
   exact ⟨u,_,_,rfl,rfl,hp,QQ h2 h⟩
 | .t e m::r,us1,v1,c1,s1,M1,D1,h=>by
   simp only [CP] at h
   obtain ⟨u,us',c,cs',sv',F,M',D',rfl,rfl,rfl,ht,hmd,h⟩:=h
   simp only [List.cons_append,CP]
   refine ⟨u,_,c,_,_,F,M'++M2,D'++D2,rfl,rfl,rfl,ht, ?_,QQ h2 h⟩
   cases m with
   | zero=>obtain ⟨rfl,rfl⟩:=hmd;exact ⟨rfl,by rw [List.append_assoc]⟩
   | succ n=>obtain ⟨rfl,rfl⟩:=hmd;exact ⟨by rw [List.append_assoc],rfl⟩
theorem UH {s:St}: ∀{ps:List (Nat×List CS)} {as vs:List Value} {cs:List (List T)} {sv:List Value} {M D:List Nat},OS s ps as vs cs sv M D→(∃us M',CP s (CH ps) us vs cs sv M' D)∧ps.length=as.length
 | [],as,vs,cs,sv,M,D,h=>by
   simp only [OS] at h
   obtain ⟨rfl,rfl,rfl,rfl,rfl,rfl⟩:=h
   exact ⟨⟨[],[],by simp [CH,CP]⟩,rfl⟩
 | (w,k)::r,as,vs,cs,sv,M,D,h=>by
   simp only [OS] at h
   obtain ⟨a,as',us,v1,v2,c1,c2,s1,s2,M1,M2,D1,D2,rfl,rfl,rfl,rfl,rfl,h1,h2,_⟩:=h
   obtain ⟨⟨us2,M2',h3⟩,h4⟩:=UH h2
   refine ⟨⟨us++us2,M1++M2', ?_⟩,by simp [h4]⟩
   have hc:CH ((w,k)::r)=k++CH r:=by simp [CH]
   rw [hc];exact QQ h3 h1
def CY:List CS→Nat→List E0
 | .v::r,j=>CY r j
 | .t e 0::r,j=> .t j e::CY r (j+1)
 | .t _ _::r,j=>CY r j
 | [],_=>[]
def DV:List CS→List Value→List Value
 | .v::r,sv=>DV r sv
 | .t _ 0::r,u::sv=>u::DV r sv
 | .t _ _::r,_::sv=>DV r sv
 | _,_=>[]
def YK (l:List E0) (j:Nat) (xs:List E0):Prop:= ∀(t:Nat) x,xs[t]? =some x→l[j+t]? =some x
def YS (l:List Value) (j:Nat) (xs:List Value):Prop:= ∀(t:Nat) x,xs[t]? =some x→l[j+t]? =some x
theorem YK.tl {l:List E0} {j:Nat} {a:E0} {r:List E0} (h:YK l j (a::r)):l[j]? =some a∧YK l (j+1) r:=⟨h 0 a rfl,fun t x hx=>by rw [show j+1+t=j+(t+1) by omega];exact h (t+1) x (by simpa using hx)⟩
theorem YS.tl {l:List Value} {j:Nat} {a:Value} {r:List Value} (h:YS l j (a::r)):l[j]? =some a∧YS l (j+1) r:=⟨h 0 a rfl,fun t x hx=>by rw [show j+1+t=j+(t+1) by omega];exact h (t+1) x (by simpa using hx)⟩
theorem YK.app {l:List E0} {j:Nat} {a b:List E0} (h:YK l j (a++b)):YK l j a∧YK l (j+a.length) b:=
 ⟨fun t x hx=>h t x (by rw [List.getElem?_append_left (List.getElem?_eq_some_iff.1 hx).1];exact hx),fun t x hx=>by rw [Nat.add_assoc];exact h (a.length+t) x (by rw [List.getElem?_append_right (by omega)];simpa using hx)⟩
theorem YS.app {l:List Value} {j:Nat} {a b:List Value} (h:YS l j (a++b)):YS l j a∧YS l (j+a.length) b:=
 ⟨fun t x hx=>h t x (by rw [List.getElem?_append_left (List.getElem?_eq_some_iff.1 hx).1];exact hx),fun t x hx=>by rw [Nat.add_assoc];exact h (a.length+t) x (by rw [List.getElem?_append_right (by omega)];simpa using hx)⟩
theorem aH {R:E0→Value→Prop} {l:List E0} {v:List Value} {j:Nat} {x:E0} {u:Value} (h:CO R l v) (hx:l[j]? =some x) (hu:v[j]? =some u):R x u:=by
 have:=ZV h hu
 rw [List.getD_eq_getElem?_getD,hx] at this
 exact this
def bZ (R:E0→Value→Prop):List (Nat×Nat)→List Value→Prop
 | [],[]=>True
 | x::xs,u::us=>R (.t x.1 x.2) u∧bZ R xs us
 | _,_=>False
theorem bZ.app {R:E0→Value→Prop}: ∀{a b:List (Nat×Nat)} {u v:List Value},bZ R a u→bZ R b v→bZ R (a++b) (u++v)
 | [],b,[],v,_,h=>h
 | x::a,b,y::u,v,h,h2=>⟨h.1,h.2.app h2⟩
 | [],_,_::_,_,h,_=>h.elim
 | _::_,_,[],_,h,_=>h.elim
theorem UY {ro:List (List T)} {m:Mst} {s:St} {slR:List E0} {svR vs:List Value} {cs:List (List T)}: ∀(css:List CS) (us v1:List Value) (c1:List (List T)) (s1:List Value) (M1 D1:List Nat) (ob:Obs) (nk i j rj:Nat),okC css=true→KOk ro ob nk→CP s css us v1 c1 s1 M1 D1→Str vs i v1→OL cs j c1→
  YK slR rj (CY css rj)→YS svR rj (DV css s1)→
  ∃L,Ph ro m s slR svR [] ob nk (inC vs cs css ob nk i j rj).ob (inC vs cs css ob nk i j rj).nk L [] M1∧(inC vs cs css ob nk i j rj).i=i+v1.length∧(inC vs cs css ob nk i j rj).j=j+c1.length∧(inC vs cs css ob nk i j rj).rj=rj+(CY css rj).length∧(DV css s1).length=(CY css rj).length∧
   ∀ro m',(∀x∈L,Fits ro m' x)→CO (E0R ro m') slR svR→CO (E0R ro m') (inC vs cs css ob nk i j rj).xs us∧bZ (E0R ro m') (inC vs cs css ob nk i j rj).sids s1∧CO (E0R ro m') (inC vs cs css ob nk i j rj).mp (muV css s1)
 | [],us,v1,c1,s1,M1,D1,ob,nk,i,j,rj,_,hk,h,_,_,_,_=>by
   simp only [CP] at h
   obtain ⟨rfl,rfl,rfl,rfl,rfl,rfl⟩:=h
   exact ⟨[],Ph.nil hk,rfl,rfl,rfl,rfl,fun ro m' _ _=>⟨trivial,trivial,by simp [inC,muV,CO]⟩⟩
 | .v::r,us,v1,c1,s1,M1,D1,ob,nk,i,j,rj,hok,hk,h,hv,hc,he,hw=>by
   simp only [CP] at h
   obtain ⟨u,us',vs',rfl,rfl,hp,h⟩:=h
   obtain ⟨hv1,hv2⟩:=hv.tl
   simp only [CY,DV] at he hw
   obtain ⟨L,g1,g2,g3,g4,g5,g6⟩:=UY (m:=m) r us' vs' c1 s1 M1 D1 ob nk (i+1) j rj hok hk h hv2 hc he hw
   refine ⟨L,g1, ?_,g3,g4,g5,fun ro m' hf ha=> ?_⟩
   ·simp only [inC];rw [g2,List.length_cons];omega
   ·obtain ⟨q1,q2,q3⟩:=g6 ro m' hf ha
    exact ⟨⟨⟨hv1.symm,by rw [hv1];exact hp⟩,q1⟩,q2,q3⟩
 | .t e md::r,us,v1,c1,s1,M1,D1,ob,nk,i,j,rj,hok,hk,h,hv,hc,he,hw=>by
   simp only [CP] at h
   obtain ⟨u,us',c,cs',sv',F,M',D',rfl,rfl,rfl,ht,hmd,h⟩:=h
   simp only [okC,Bool.and_eq_true] at hok
   have hpos:0<e:=Nat.le_of_ble_eq_true hok.1.1
   obtain ⟨hc1,hc2⟩:=hc.tl
   match md,hmd,ht,he,hw with
   | 0,hmd,ht,he,hw=>
     obtain ⟨rfl,rfl⟩:=hmd
     simp only [CY,DV] at he hw
     obtain ⟨L,g1,g2,g3,g4,g5,g6⟩:=UY (m:=m) r us' v1 cs' sv' M1 D' ob nk i (j+1) (rj+1) hok.2 hk h hv hc2 he.tl.2 hw.tl.2
     refine ⟨L,g1,g2, ?_, ?_, ?_,fun ro m' hf ha=> ?_⟩
     ·simp only [inC];rw [g3,List.length_cons];omega
     ·simp only [inC];rw [g4];simp only [CY,List.length_cons];omega
     ·simp only [CY,DV,List.length_cons,g5]
     ·obtain ⟨q1,q2,q3⟩:=g6 ro m' hf ha
      have hx:=aH ha he.tl.1 hw.tl.1
      exact ⟨⟨hx,q1⟩,⟨hx,q2⟩,by simpa [inC,muV] using q3⟩
   | 1,hmd,ht,he,hw=>
     obtain ⟨rfl,rfl⟩:=hmd
     simp only [CY,DV] at he hw
     obtain ⟨x,hxk,hxo,hx1,hx2⟩:=Ph.list (m:=m) (sl:=slR) (sv:=svR) (Mo:=[]) hk ht hpos
     obtain ⟨L,g1,g2,g3,g4,g5,g6⟩:=UY (m:=m) r us' v1 cs' sv' M' D1 ((nk, .ls true c)::ob) (nk+1) i (j+1) rj hok.2 hk.cons h hv hc2 he hw
     refine ⟨[x]++L, ?_, ?_, ?_, ?_, ?_,fun ro m' hf ha=> ?_⟩
     ·have:=hx1.comp g1 (fun k hk=>by simp at hk) (fun k hk=>by simp at hk) (fun k hk=>by simp at hk)
      simp only [inC,hc1];exact this
     ·simp only [inC,hc1];exact g2
     ·simp only [inC,hc1];rw [g3,List.length_cons];omega
     ·simp only [inC,hc1];rw [g4];simp only [CY]
     ·simp only [CY,DV,g5]
     ·obtain ⟨q1,q2,q3⟩:=g6 ro m' (fun y hy=>hf y (by simp [hy])) ha
      have hx:=hx2 ro m' (hf x (by simp))
      simp only [inC,hc1,muV]
      exact ⟨⟨hx,q1⟩,⟨hx,q2⟩,⟨hx,q3⟩⟩
   | n+2,hmd,ht,he,hw=>
     obtain ⟨rfl,rfl⟩:=hmd
     simp only [CY,DV] at he hw
     obtain ⟨x,hxk,hxo,hx1,hx2⟩:=Ph.list (m:=m) (sl:=slR) (sv:=svR) (Mo:=[]) hk ht hpos
     obtain ⟨L,g1,g2,g3,g4,g5,g6⟩:=UY (m:=m) r us' v1 cs' sv' M' D1 ((nk, .ls true c)::ob) (nk+1) i (j+1) rj hok.2 hk.cons h hv hc2 he hw
     refine ⟨[x]++L, ?_, ?_, ?_, ?_, ?_,fun ro m' hf ha=> ?_⟩
     ·have:=hx1.comp g1 (fun k hk=>by simp at hk) (fun k hk=>by simp at hk) (fun k hk=>by simp at hk)
      simp only [inC,hc1];exact this
     ·simp only [inC,hc1];exact g2
     ·simp only [inC,hc1];rw [g3,List.length_cons];omega
     ·simp only [inC,hc1];rw [g4];simp only [CY]
     ·simp only [CY,DV,g5]
     ·obtain ⟨q1,q2,q3⟩:=g6 ro m' (fun y hy=>hf y (by simp [hy])) ha
      have hx:=hx2 ro m' (hf x (by simp))
      simp only [inC,hc1,muV]
      exact ⟨⟨hx,q1⟩,⟨hx,q2⟩,q3⟩
theorem NH {b:List CS}: ∀{a:List CS} {j:Nat},CY (a++b) j=CY a j++CY b (j+(CY a j).length)
 | [],j=>by simp [CY]
 | .v::r,j=>by simp only [List.cons_append,CY];exact NH
 | .t e 0::r,j=>by simp only [List.cons_append,CY,NH (a:=r),List.length_cons];rw [show j+1+(CY r (j+1)).length=j+((CY r (j+1)).length+1) by omega]
 | .t e (n+1)::r,j=>by simp only [List.cons_append,CY];exact NH
theorem NG {b:List CS} {v:List Value}: ∀{a:List CS} {u:List Value},u.length=nsl a→DV (a++b) (u++v)=DV a u++DV b v
 | [],u,h=>by rw [List.eq_nil_of_length_eq_zero h];simp [DV]
 | .v::r,u,h=>by simp only [List.cons_append,DV];exact NG h
 | .t e m::r,[],h=>by simp [nsl] at h
 | .t e 0::r,x::u,h=>by simp only [List.cons_append,DV,NG (a:=r) (u:=u) (by simpa [nsl] using h)]
 | .t e (n+1)::r,x::u,h=>by simp only [List.cons_append,DV,NG (a:=r) (u:=u) (by simpa [nsl] using h)]
theorem RF {b:List CS} {v:List Value}: ∀{a:List CS} {u:List Value},u.length=nsl a→muV (a++b) (u++v)=muV a u++muV b v
 | [],u,h=>by rw [List.eq_nil_of_length_eq_zero h];simp [muV]
 | .v::r,u,h=>by simp only [List.cons_append,muV];exact RF h
 | .t e m::r,[],h=>by simp [nsl] at h
 | .t e 0::r,x::u,h=>by simp only [List.cons_append,muV,RF (a:=r) (u:=u) (by simpa [nsl] using h)]
 | .t e 1::r,x::u,h=>by simp only [List.cons_append,muV,RF (a:=r) (u:=u) (by simpa [nsl] using h)]
 | .t e (n+2)::r,x::u,h=>by simp only [List.cons_append,muV,RF (a:=r) (u:=u) (by simpa [nsl] using h)]
end Go.Proofs.Ytklmcfpgdfibnaa.Eng
namespace Go.Proofs.Ytklmcfpgdfibnaa.Eng
open Go Go.RowKit
set_option linter.unusedVariables false
set_option linter.unusedSimpArgs false
set_option linter.constructorNameAsVariable false
theorem kE {ro:List (List T)} {m:Mst} {s:St} {slR:List E0} {svR vs:List Value} {cs:List (List T)}: ∀(ps:List (Nat×List CS)) (as v1:List Value) (c1:List (List T)) (s1:List Value) (M1 D1:List Nat) (ob:Obs) (nk i j rj:Nat),(ps.all fun p=>okC p.2)=true→(∀p∈ps,p.1≤2)→KOk ro ob nk→OS s ps as v1 c1 s1 M1 D1→Str vs i v1→OL cs j c1→
  YK slR rj (CY (CH ps) rj)→YS svR rj (DV (CH ps) s1)→
  ∃L,Ph ro m s slR svR [] ob nk (inP vs cs ps ob nk i j rj).ob (inP vs cs ps ob nk i j rj).nk L [] M1∧
   ∀ro m',(∀x∈L,Fits ro m' x)→CO (E0R ro m') slR svR→TN (EVR (E0R ro m')) (inP vs cs ps ob nk i j rj).es as∧bZ (E0R ro m') (inP vs cs ps ob nk i j rj).sids s1∧CO (E0R ro m') (inP vs cs ps ob nk i j rj).mp (muV (CH ps) s1)∧CO (E0R ro m') (inP vs cs ps ob nk i j rj).bp (bpV ps as)
 | [],as,v1,c1,s1,M1,D1,ob,nk,i,j,rj,_,_,hk,h,_,_,_,_=>by
   simp only [OS] at h
   obtain ⟨rfl,rfl,rfl,rfl,rfl,rfl⟩:=h
   exact ⟨[],Ph.nil hk,fun ro m' _ _=>⟨trivial,trivial,by simp [inP,CH,muV,CO],by simp [inP,bpV,CO]⟩⟩
 | (w,k)::r,as,v1,c1,s1,M1,D1,ob,nk,i,j,rj,hok,hw2,hk,h,hv,hc,he,hw=>by
   simp only [List.all_cons,Bool.and_eq_true] at hok
   simp only [OS] at h
   obtain ⟨a,as',us,v2,v3,c2,c3,s2,s3,M2,M3,D2,D3,rfl,rfl,rfl,rfl,rfl,h1,h2,hwr⟩:=h
   have hcs:CH ((w,k)::r)=k++CH r:=by simp [CH]
   obtain ⟨l1,l2⟩:=M5 h1
   rw [hcs] at he hw ⊢
   rw [NH] at he
   rw [NG l2] at hw
   obtain ⟨L1,g1,g2,g3,g4,g5,g6⟩:=UY (m:=m) (s:=s) (slR:=slR) (svR:=svR) (vs:=vs) (cs:=cs) k us v2 c2 s2 M2 D2 ob nk i j rj hok.1 hk h1 hv.app.1 hc.app.1 he.app.1 hw.app.1
   have hno: ∀k:Nat,k∈([]:List Nat)→False:=fun k hk=>by simp at hk
   have hrest: ∀(ob':Obs) (nk':Nat),KOk ro ob' nk'→_:=fun ob' nk' hk'=>kE (m:=m) (s:=s) (slR:=slR) (svR:=svR) (vs:=vs) (cs:=cs) r as' v3 c3 s3 M3 D3 ob' nk' (inC vs cs k ob nk i j rj).i (inC vs cs k ob nk i j rj).j (inC vs cs k ob nk i j rj).rj hok.2 (fun p hp=>hw2 p (by simp [hp])) hk' h2 (by rw [g2];exact hv.app.2) (by rw [g3];exact hc.app.2) (by rw [g4];exact he.app.2) (by rw [g4, ←g5];exact hw.app.2)
   have hwl:=hw2 (w,k) (by simp)
   rw [RF l2]
   rcases w with _ | _ | _ | n
   ·obtain ⟨rfl,rfl⟩:=hwr
    obtain ⟨L2,f1,f2⟩:=hrest _ _ g1.kok
    refine ⟨L1++L2, ?_,fun ro m' hf ha=> ?_⟩
    ·exact g1.comp f1 (fun k hk=>(hno k hk).elim) (fun k hk=>(hno k hk).elim) (fun k hk=>(hno k hk).elim)
    ·obtain ⟨q1,q2,q3⟩:=g6 ro m' (fun x hx=>hf x (by simp [hx])) ha
     obtain ⟨p1,p2,p3,p4⟩:=f2 ro m' (fun x hx=>hf x (by simp [hx])) ha
     refine ⟨⟨?_,p1⟩,q2.app p2,GW q3 p3,p4⟩
     have hone: ∀(ys:List E0),CO (E0R ro m') ys [a]→EVR (E0R ro m') (match ys with | [x]=> .o x | _=> .o .w) a:=fun ys hy=>by
      match ys,hy with
      | [x],hy=>exact hy.1
     exact hone _ q1
   ·obtain ⟨rfl,rfl⟩:=hwr
    obtain ⟨L2,f1,f2⟩:=hrest _ _ g1.kok
    refine ⟨L1++L2, ?_,fun ro m' hf ha=> ?_⟩
    ·exact g1.comp f1 (fun k hk=>(hno k hk).elim) (fun k hk=>(hno k hk).elim) (fun k hk=>(hno k hk).elim)
    ·obtain ⟨q1,q2,q3⟩:=g6 ro m' (fun x hx=>hf x (by simp [hx])) ha
     obtain ⟨p1,p2,p3,p4⟩:=f2 ro m' (fun x hx=>hf x (by simp [hx])) ha
     exact ⟨⟨⟨us,rfl,q1⟩,p1⟩,q2.app p2,GW q3 p3,p4⟩
   ·obtain ⟨h,rfl,hg,rfl⟩:=hwr
    obtain ⟨x,x1,x2,x3,x4,x5,x6⟩:=Ph.box (nk:=(inC vs cs k ob nk i j rj).nk) (sl:=slR) (sv:=svR) (Lc:=L1) hg (fun ro m' hf ha=>(g6 ro m' hf ha).1)
    have gb:=g1.m7 x1 x5 (by rw [x3,x2]) (by rw [x4,x2]) x6
    obtain ⟨L2,f1,f2⟩:=hrest _ _ gb.kok
    have hcomp:=gb.comp f1 (fun k hk=>(hno k hk).elim) (fun k hk=>(hno k hk).elim) (fun k hk=>(hno k hk).elim)
    refine ⟨(L1++[x])++L2, ?_,fun ro m' hf ha=> ?_⟩
    ·refine ⟨hcomp.look,hcomp.rest,hcomp.kok,hcomp.le,hcomp.keys,hcomp.key,hcomp.cov,hcomp.ok,hcomp.nd,hcomp.rows,hcomp.perm.trans ?_,hcomp.has⟩
     rw [x2]
     apply List.perm_iff_count.2
     intro z
     simp only [List.count_append,List.count_cons,List.count_nil];omega
    ·obtain ⟨q1,q2,q3⟩:=g6 ro m' (fun y hy=>hf y (by simp [hy])) ha
     obtain ⟨p1,p2,p3,p4⟩:=f2 ro m' (fun y hy=>hf y (by simp [hy])) ha
     have hx:E0R ro m' (.p (inC vs cs k ob nk i j rj).nk 0) (pt h 0):=by
      have hfx:=hf x (by simp)
      refine ⟨by rw [←x1];exact hfx.1,rfl,fun ys _=> ?_⟩
      have:=hfx.2.1
      rw [x1] at this
      rw [this,x2]
     exact ⟨⟨hx,p1⟩,q2.app p2,GW q3 p3,⟨hx,p4⟩⟩
   ·exfalso;simp only at hwl;omega
theorem ZG {s:St}: ∀(css:List CS) (us vs:List Value) (cs:List (List T)) (sv:List Value) (M D:List Nat) (j:Nat),okC css=true→CP s css us vs cs sv M D→
  ∃R:List Asg,R.length=(RS css cs).length∧(CY css j).length=R.length∧(DV css sv).length=R.length∧ ∀(t:Nat) a,R[t]? =some a→ ∃c e u,(RS css cs)[t]? =some c∧(CY css j)[t]? =some (.t (j+t) e)∧(DV css sv)[t]? =some u∧0<e∧(∀x∈a.F,x∈D)∧one u=true∧
   ((a.nil=true∧c=[]∧a.F=[]∧u=nl)∨(a.nil=false∧Win s false c a.h a.b a.F∧ ∃n,c.length=n*e∧u=sl a.h a.b n e))
 | [],us,vs,cs,sv,M,D,j,_,h=>⟨[],by simp [RS],by simp [CY],by simp [DV],fun t a ha=>by simp at ha⟩
 | .v::r,us,vs,cs,sv,M,D,j,hok,h=>by
   simp only [CP] at h
   obtain ⟨u,us',vs',rfl,rfl,hp,h⟩:=h
   simp only [RS,CY,DV]
   exact ZG r us' vs' cs sv M D j hok h
 | .t e (n+1)::r,us,vs,cs,sv,M,D,j,hok,h=>by
   simp only [CP] at h
   obtain ⟨u,us',c,cs',sv',F,M',D',rfl,rfl,rfl,ht,hmd,h⟩:=h
   obtain ⟨rfl,rfl⟩:=hmd
   simp only [okC,Bool.and_eq_true] at hok
   simp only [RS,CY,DV]
   exact ZG r us' vs cs' sv' M' D j hok.2 h
 | .t e 0::r,us,vs,cs,sv,M,D,j,hok,h=>by
   simp only [CP] at h
   obtain ⟨u,us',c,cs',sv',F,M',D',rfl,rfl,rfl,ht,hmd,h⟩:=h
   obtain ⟨rfl,rfl⟩:=hmd
   simp only [okC,Bool.and_eq_true] at hok
   obtain ⟨R,g1,g2,g3,g4⟩:=ZG r us' vs cs' sv' M D' (j+1) hok.2 h
   simp only [RS,CY,DV]
   have hpos:0<e:=Nat.le_of_ble_eq_true hok.1.1
   have hA: ∃a:Asg,a.F=F∧one u=true∧((a.nil=true∧c=[]∧a.F=[]∧u=nl)∨(a.nil=false∧Win s false c a.h a.b a.F∧ ∃n,c.length=n*e∧u=sl a.h a.b n e)):=by
    rcases GA.1 ht with ⟨rfl,rfl,rfl⟩ | ⟨h0,b0,n,rfl,hl,hw⟩
    ·exact ⟨⟨true,0,0,[]⟩,rfl,rfl, .inl ⟨rfl,rfl,rfl,rfl⟩⟩
    ·exact ⟨⟨false,h0,b0,F⟩,rfl,rfl, .inr ⟨rfl,hw,n,hl,rfl⟩⟩
   obtain ⟨a,haF,hone,ha⟩:=hA
   refine ⟨a::R,by simp [g1],by simp [g2],by simp [g3],fun t b hb=> ?_⟩
   cases t with
   | zero=>
     simp at hb;subst hb
     exact ⟨c,e,u,rfl,rfl,rfl,hpos,fun x hx=>by rw [haF] at hx;simp [hx],hone,ha⟩
   | succ t=>
     obtain ⟨c',e',u',k1,k2,k3,k4,k5,k6,k7⟩:=g4 t b (by simpa using hb)
     exact ⟨c',e',u',by simpa using k1,by rw [show j+(t+1)=j+1+t by omega];simpa using k2,by simpa using k3,k4,fun x hx=>by simp [k5 x hx],k6,k7⟩
theorem hX: ∀{ro:List (List T)} {k:Nat},PJ ro k=(ro[k]?).map fun c=> .ls false c
 | [],k=>by simp [PJ]
 | c::r,0=>by simp [PJ]
 | c::r,k+1=>by simp only [PJ];rw [hX];simp
theorem eY {R:E0→Value→Prop}: ∀{xs:List E0} {us:List Value},xs.length=us.length→(∀(t:Nat) x u,xs[t]? =some x→us[t]? =some u→R x u)→CO R xs us
 | [],[],_,_=>trivial
 | x::xs,u::us,hl,h=>⟨h 0 x u rfl rfl,eY (by simpa using hl) fun t y w hy hw=>h (t+1) y w (by simpa using hy) (by simpa using hw)⟩
 | [],_::_,hl,_=>by simp at hl
 | _::_,[],hl,_=>by simp at hl
theorem vY {ro:List (List T)} {m:Mst}: ∀{es:List EV} {as:List Value} {i:Nat},TN (EVR (E0R ro m)) es as→ ∀env1 t,UP (E0R ro m) env1 (lkE (iO i es) t) (lk (TI i as) t)
 | [],[],i,_=>fun env1 t=>trivial
 | e::es,a::as,i,h=>fun env1 t=>by
   simp only [iO,TI,lkE,lk]
   cases hb:Nat.beq i t with
   | true=>exact h.1
   | false=>exact vY h.2 env1 t
 | [],_::_,_,h=>h.elim
 | _::_,[],_,h=>h.elim
theorem fJ {R:E0→Value→Prop} {n:Nat} (hw: ∀u,R .w u): ∀{sids:List (Nat×Nat)} {sv:List Value},bZ R sids sv→CO R (sids.map (RU n)) sv
 | [],[],_=>trivial
 | x::r,u::w,h=>by
   refine ⟨?_,fJ hw h.2⟩
   unfold RU
   cases Nat.blt x.1 n with
   | true=>exact h.1
   | false=>exact hw u
 | [],_::_,h=>h.elim
 | _::_,[],h=>h.elim
theorem X0 {n:Nat}: ∀{sids:List (Nat×Nat)},(sids.map (RU n)).all I2=true
 | []=>rfl
 | x::r=>by
   simp only [List.map_cons,List.all_cons,X0,Bool.and_true]
   unfold RU
   cases Nat.blt x.1 n <;> rfl
theorem dC: ∀{a b:List E0},eqE a b=true→a=b
 | [],[],_=>rfl
 | x::r,y::r',h=>by
   cases x <;> cases y <;> simp only [eqE,Bool.false_eq_true,Bool.and_eq_true] at h
   ·rw [Nat.eq_of_beq_eq_true h.1.1,Nat.eq_of_beq_eq_true h.1.2,dC h.2]
   ·rw [dC h]
 | [],_::_,h=>by simp [eqE] at h
 | x::_,[],h=>by cases x <;> simp [eqE] at h
theorem tJ {ro:List (List T)} {m:Mst} {sids:List (Nat×Nat)} {sv:List Value} (h:CO (E0R ro m) (sids.map (RU ro.length)) sv):cI ro m sids sv:=by
 intro j k e hs hk
 rw [List.getD_eq_getElem?_getD] at hs
 cases hj:sids[j]? with
 | none=>rw [hj] at hs;simp at hs
 | some x=>
   rw [hj] at hs
   simp at hs
   subst hs
   have hl:=F6 h
   have hlt:j<sv.length:=by rw [hl,List.length_map];exact (List.getElem?_eq_some_iff.1 hj).1
   refine ⟨sv[j],List.getElem?_eq_getElem hlt, ?_⟩
   have:=aH h (show (sids.map (RU ro.length))[j]? =some (RU ro.length (k,e)) by rw [List.getElem?_map,hj];rfl) (List.getElem?_eq_getElem hlt)
   unfold RU at this
   have hb:Nat.blt k ro.length=true:=Nat.ble_eq_true_of_le hk
   rw [hb] at this
   exact this
theorem KU {vs:List Value} {cs:List (List T)}: ∀{css:List CS} {ob:Obs} {nk i j rj:Nat},(inC vs cs css ob nk i j rj).mp.all I2=true
 | [],ob,nk,i,j,rj=>rfl
 | .v::r,ob,nk,i,j,rj=>by simp only [inC];exact KU
 | .t e 0::r,ob,nk,i,j,rj=>by simp only [inC];exact KU
 | .t e 1::r,ob,nk,i,j,rj=>by simp only [inC,List.all_cons,I2,Bool.true_and];exact KU
 | .t e (n+2)::r,ob,nk,i,j,rj=>by simp only [inC];exact KU
theorem KQ {vs:List Value} {cs:List (List T)}: ∀{ps:List (Nat×List CS)} {ob:Obs} {nk i j rj:Nat},(inP vs cs ps ob nk i j rj).bp.all I2=true∧(inP vs cs ps ob nk i j rj).mp.all I2=true
 | [],ob,nk,i,j,rj=>⟨rfl,rfl⟩
 | (w,k)::r,ob,nk,i,j,rj=>by
   rcases w with _ | _ | n
   ·simp only [inP,List.all_append,Bool.and_eq_true]
    exact ⟨KQ.1,KU,KQ.2⟩
   ·simp only [inP,List.all_append,Bool.and_eq_true]
    exact ⟨KQ.1,KU,KQ.2⟩
   ·simp only [inP,List.all_append,List.all_cons,I2,Bool.true_and,Bool.and_eq_true]
    exact ⟨KQ.1,KU,KQ.2⟩
theorem AY {C:Ctx} {f:FuncId} {fn:Func} {g:Sg} {vs:List Value} {cs:List (List T)} {K:J2} {q:Prop} (sgs:List (Nat×Sg)) (an:List (Nat×List Nat)) (js:List (Nat×JS)) (hf:C.P.funcs[f]? =some fn) (hmo:C.P.follows .mixedOrders=true)
  (hn:eE fn g.ps.length=true) (he:rO C sgs an js fn g vs cs K=q) (h:q):cl2 C f g vs cs K:=by
 rw [←he] at h
 intro s as sv M D hpar hMn hMD
 unfold rO at h
 cases hbody:fn.body with
 | none=>rw [hbody] at h;exact h.elim
 | some c=>
   rw [hbody] at h
   simp only at h
   split at h
   ·rename_i hok
    simp only [Bool.and_eq_true] at hok
    have hokS:=hok.1
    unfold nL at hokS
    simp only [Bool.and_eq_true] at hokS
    have hw2: ∀p∈g.ps,p.1≤2:=fun p hp=>Nat.le_of_ble_eq_true (List.all_eq_true.1 hok.2 p hp)
    obtain ⟨⟨usA,MA,hcells⟩,hlen⟩:=UH hpar
    have hokC:okC (CH g.ps)=true:=by
     have:=hokS.1.1
     unfold CH
     generalize g.ps=ps at this
     induction ps with
     | nil=>rfl
     | cons p r ih=>
       simp only [List.all_cons,Bool.and_eq_true] at this
       simp only [List.map_cons,List.flatten_cons]
       have h2:=ih this.2
       have h1:=this.1
       generalize p.2=a at h1
       induction a with
       | nil=>exact h2
       | cons c a iha=>
         cases c with
         | v=>simp only [List.cons_append,okC] at*;exact iha h1
         | t e md=>simp only [List.cons_append,okC,Bool.and_eq_true] at*;exact ⟨h1.1,iha h1.2⟩
    obtain ⟨R,r1,r2,r3,r4⟩:=ZG (CH g.ps) usA vs cs sv MA D 0 hokC hcells
    have s1:Str vs 0 vs:=fun t x hx=>by simp [nx,List.getD_eq_getElem?_getD,hx]
    have s2:OL cs 0 cs:=fun t x hx=>by simp [nxc,List.getD_eq_getElem?_getD,hx]
    have k0:KOk (RS (CH g.ps) cs) [] (RS (CH g.ps) cs).length:=⟨by simp,fun x hx=>by simp at hx,Nat.le_refl _⟩
    obtain ⟨L,p1,p2⟩:=kE (m:=⟨s,[],0,fun _=>⟨true,0,0,[]⟩⟩) (s:=s) (slR:=CY (CH g.ps) 0) (svR:=DV (CH g.ps) sv) (vs:=vs) (cs:=cs) g.ps as vs cs sv M D [] (RS (CH g.ps) cs).length 0 0 0 hokS.1.1 hw2 k0 hpar s1 s2 (fun t x hx=>by rw [Nat.zero_add];exact hx) (fun t x hx=>by rw [Nat.zero_add];exact hx)
    generalize hro:RS (CH g.ps) cs=ro at*
    generalize hip:inP vs cs g.ps [] ro.length 0 0 0=ip at*
    have hLk: ∀x∈L,ro.length≤x.k∧x.k<ip.nk:=fun x hx=>by
     rcases p1.key x hx with ⟨a,_⟩ | a
     ·simp at a
     ·exact a
    let A0:Nat→Asg:=H9 (fun k=>R.getD k ⟨true,0,0,[]⟩) L
    have hA0L: ∀x∈L,A0 x.k=x.a:=fun x hx=>J0 p1.keys hx
    have hA0R: ∀k,k<ro.length→A0 k=R.getD k ⟨true,0,0,[]⟩:=fun k hk=>MZ fun x hx he=>by have:=(hLk x hx).1;omega
    let m:Mst:=⟨s,ip.ob,ip.nk,A0⟩
    have hfit: ∀x∈L,Fits ro m x:=fun x hx=>⟨(hLk x hx).2,hA0L x hx,fun c hc=>by show AV ro ip.ob x.k=_;rw [p1.look x hx,hc]⟩
    have hlook: ∀k o,AV ro ip.ob k=some o→(k<ro.length∧ ∃c,o= .ls false c∧ro[k]? =some c)∨ ∃x∈L,x.k=k∧x.o=o:=by
     intro k o hk
     by_cases hx: ∃x∈L,x.k=k
     ·obtain ⟨x,hx,rfl⟩:=hx
      rw [p1.look x hx] at hk
      exact .inr ⟨x,hx,rfl,Option.some.inj hk⟩
     ·rw [p1.rest k fun x hx' he=>hx ⟨x,hx',he⟩] at hk
      have hk':PJ ro k=some o:=hk
      rw [hX] at hk'
      simp only [Option.map_eq_some_iff] at hk'
      obtain ⟨c,h1,rfl⟩:=hk'
      exact .inl ⟨(List.getElem?_eq_some_iff.1 h1).1,c,rfl,h1⟩
    have hroE:CO (E0R ro m) (CY (CH g.ps) 0) (DV (CH g.ps) sv):=by
     refine eY (by rw [r2,r3]) fun t x u hx hu=> ?_
     have hlt:t<R.length:=by rw [←r2];exact (List.getElem?_eq_some_iff.1 hx).1
     obtain ⟨c,e,u',q1,q2,q3,q4,q5,q6,q7⟩:=r4 t R[t] (List.getElem?_eq_getElem hlt)
     rw [q2] at hx;cases hx
     rw [q3] at hu;cases hu
     have hlt2:t<ro.length:=by rw [←r1];exact hlt
     have hAt:A0 t=R[t]:=by rw [hA0R t hlt2];simp [List.getD_eq_getElem?_getD,hlt]
     rw [Nat.zero_add]
     refine ⟨Nat.lt_of_lt_of_le hlt2 p1.le,q6,q4,fun own cs' hl=> ?_⟩
     rcases hlook t _ hl with ⟨_,c',h1,h2⟩ | ⟨x,hx,he,_⟩
     ·cases h1
      rw [q1] at h2;cases h2
      show _∨ ∃n,(A0 t).nil=false∧_∧u=sl (A0 t).h (A0 t).b n e
      rw [show (m.A t)=A0 t from rfl,hAt]
      rcases q7 with ⟨a1,a2,a3,a4⟩ | ⟨a1,a2,n,a3,a4⟩
      ·exact .inl ⟨a4,a1⟩
      ·exact .inr ⟨n,a1,a3,a4⟩
     ·have:=(hLk x hx).1;omega
    obtain ⟨f1,f2,f3,f4⟩:=p2 ro m hfit hroE
    have hF: ∀x∈L, ∀y∈x.a.F,y∈x.P:=fun x hx y hy=>by
     rcases p1.rows x hx y hy with a | ⟨_,_,a⟩
     ·exact a
     ·simp at a
    have hPM: ∀x∈L, ∀y∈x.P,y∈M:=fun x hx y hy=>by
     rw [←p1.perm.mem_iff];exact List.mem_flatten.2 ⟨_,List.mem_map.2 ⟨x,hx,rfl⟩,hy⟩
    have hnd:(MV L).Nodup:=p1.perm.nodup_iff.2 hMn
    have hRo: ∀k,k<ro.length→ ∀y∈(A0 k).F,y∈D:=fun k hk y hy=>by
     have hlt:k<R.length:=by rw [r1];exact hk
     obtain ⟨c,e,u',q1,q2,q3,q4,q5,q6,q7⟩:=r4 k R[k] (List.getElem?_eq_getElem hlt)
     rw [hA0R k hk] at hy
     simp [List.getD_eq_getElem?_getD,hlt] at hy
     exact q5 y hy
    have hm:Mem ⟨s,M⟩ ro m:=by
     refine ⟨p1.kok,fun k o hk=> ?_,fun k o hk how=> ?_,fun k k' o o' hne hk hk' how y hy hy'=> ?_,Nat.le_refl _,fun h _ _=>rfl⟩
     ·rcases hlook k o hk with ⟨hlt,c,rfl,hc⟩ | ⟨x,hx,rfl,rfl⟩
      ·have hlt':k<R.length:=by rw [r1];exact hlt
       obtain ⟨c',e,u',q1,q2,q3,q4,q5,q6,q7⟩:=r4 k R[k] (List.getElem?_eq_getElem hlt')
       have hAt:m.A k=R[k]:=by show A0 k=_;rw [hA0R k hlt];simp [List.getD_eq_getElem?_getD,hlt']
       rw [hc] at q1;cases q1
       simp only [ObR,hAt]
       rcases q7 with ⟨a1,a2,a3,a4⟩ | ⟨a1,a2,n,a3,a4⟩
       ·exact .inl ⟨a1,a2,a3⟩
       ·exact .inr ⟨a1,a2⟩
      ·have hAx:m.A x.k=x.a:=hA0L x hx
       rcases p1.ok x hx with ⟨c,hc,hok⟩ | ⟨xs,us,hxo,hxF,hg,hall⟩
       ·rw [hc];simp only [ObR,hAx];exact hok
       ·rw [hxo];simp only [ObR,hAx];exact ⟨hxF,us,hg,hall ro m hfit hroE⟩
     ·rcases hlook k o hk with ⟨hlt,c,rfl,hc⟩ | ⟨x,hx,rfl,rfl⟩
      ·cases how
      ·have hAx:m.A x.k=x.a:=hA0L x hx
       rw [hAx]
       exact ⟨p1.nd hnd x hx,fun y hy=> .inl (hPM x hx y (hF x hx y hy))⟩
     ·rcases hlook k o hk with ⟨hlt,c,rfl,hc⟩ | ⟨x,hx,rfl,rfl⟩
      ·cases how
      ·have hAx:m.A x.k=x.a:=hA0L x hx
       rw [hAx] at hy
       rcases hlook k' o' hk' with ⟨hlt,c,rfl,hc⟩ | ⟨z,hz,rfl,rfl⟩
       ·exact hMD y (hPM x hx y (hF x hx y hy)) (hRo k' hlt y hy')
       ·have hAz:m.A z.k=z.a:=hA0L z hz
        rw [hAz] at hy'
        exact WY hnd hx hz hne y (hF x hx y hy) (hF z hz y hy')
    have hE:HS ro m (iO 0 ip.es) (TI 0 as):=fun t=>vY f1 _ t
    have hsid:eQ g=true→CO (E0R ro m) (KO g ro.length ip.sids) sv:=fun ha=>by
     unfold KO
     rw [ha]
     exact fJ (fun u=>trivial) f2
    have hrp: ∃w,CO (E0R ro m) (KO g ro.length ip.sids) w∧(eQ g=true→w=sv)∧(KO g ro.length ip.sids).all I2=true:=by
     cases hh:eQ g with
     | true=>exact ⟨sv,hsid hh,fun _=>rfl,by unfold KO;rw [hh];exact X0⟩
     | false=>exact ⟨[],by unfold KO;rw [hh];trivial,fun hx=>(by cases hx),by unfold KO;rw [hh];rfl⟩
    obtain ⟨rw_,hrw1,hrw2,hrw3⟩:=hrp
    have hbl:(bpV g.ps as).length=ip.bp.length:=F6 f4
    have hml:(muV (CH g.ps) sv).length=ip.mp.length:=F6 f3
    have hpin:NQ ro m (ip.bp++(ip.mp++KO g ro.length ip.sids)) (bpV g.ps as++(muV (CH g.ps) sv++rw_)):=by
     refine ⟨GW f4 (GW f3 hrw1), ?_⟩
     simp only [List.all_append,Bool.and_eq_true]
     obtain ⟨b1,b2⟩:=KQ (vs:=vs) (cs:=cs) (ps:=g.ps) (ob:=[]) (nk:=ro.length) (i:=0) (j:=0) (rj:=0)
     rw [hip] at b1 b2
     exact ⟨b1,b2,hrw3⟩
    let K1:Value→Q:=fun v s'=> ∃M' vs' cs',(∀h,h<s.n→h∉M→s'.get h=s.get h)∧wA s' g as sv cs v vs' cs' M'∧M'.Nodup∧(∀h∈M',h∈M∨s.n≤h)∧s.n≤s'.n∧K vs' cs'
    have hret: ∀m' env' pins' env1',qR C g ro.length ip fn.results.toList ⟨m'.ob,m'.nk,env',pins'⟩ K→Mem ⟨s,M⟩ ro m'→HS ro m' env' env1'→NQ ro m' pins' (bpV g.ps as++(muV (CH g.ps) sv++rw_))→K5 C.P fn.results.toList [] env1' K1 m'.s:=by
     intro m' env' pins' env1' hr hm' hE' hP'
     unfold qR at hr
     split at hr
     ·exact hr.elim
     ·rename_i es hes
      split at hr
      ·exact hr.elim
      ·rename_i p hp
       split at hr
       ·exact hr.elim
       ·rename_i q hq
        split at hr
        ·exact hr.elim
        ·rename_i l hl
         split at hr
         case h_2=>exact hr.elim
         rename_i hpe
         obtain ⟨as',a1,a2⟩:=VB hm' hE' fn.results.toList es hes
         have hpl:=F6 hP'.1
         have e1:=I7 ip.bp.length hP'.1
         rw [←hbl,List.take_left,hbl] at e1
         have e2:=JM ip.bp.length hP'.1
         rw [←hbl,List.drop_left,hbl] at e2
         have e3:=I7 ip.mp.length e2
         rw [←hml,List.take_left,hml] at e3
         have e4:=JM ip.mp.length e2
         rw [←hml,List.drop_left,hml] at e4
         have hSid:eQ g=true→cI ro m' ip.sids sv:=fun hh=>by
          rw [dC hpe,hrw2 hh] at e4
          unfold KO at e4
          rw [hh] at e4
          exact tJ e4
         have hA1:(∃p∈g.rs, ∃j,RC.a j∈p.2)→cI ro m' ip.sids sv:=fun ⟨p,hp,j,hj⟩=>hSid (by
          unfold eQ
          simp only [Bool.or_eq_true]
          exact .inl (List.any_eq_true.2 ⟨p,hp,List.any_eq_true.2 ⟨_,hj,rfl⟩⟩))
         have hA2:(∃p∈g.bs, ∃j,RC.a j∈p)→cI ro m' ip.sids sv:=fun ⟨p,hp,j,hj⟩=>hSid (by
          unfold eQ
          simp only [Bool.or_eq_true]
          exact .inr (List.any_eq_true.2 ⟨p,hp,List.any_eq_true.2 ⟨_,hj,rfl⟩⟩))
         obtain ⟨d1,N1,b1,b2,b3,b4,b5⟩:=iE hm' g.rs es as' _ p.2.2 p.1 p.2.1 [] hA1 (FU.nil hm'.kok) hp a1
         obtain ⟨d2,N2,c1,c2,c3,c4⟩:=UB hm' g.ps as g.bs _ p.2.2 q.2.2 q.1 q.2.1 (d1++[]) hA2 hlen hw2 b1 hq e1
         obtain ⟨d3,N3,g1,g2,g3,g4⟩:=RL hm' (CH g.ps) usA vs cs sv MA D _ q.2.2 l (d2++(d1++[])) hcells c1 hl e3
         have mv1:=b3.app hm' c3 (fun k hk hd=>c4 k hk (by simp [hd])) (fun k hk=>c1.own k (by rcases hk with hk | hk <;> simp [hk]))
         have mv2:=mv1.app hm' g3 (fun k hk hd=>g4 k hk (by simpa using hd)) (fun k hk=>by
          rcases hk with hk | hk
          ·exact c1.own k (by simpa using hk)
          ·exact g1 k hk)
         refine a2 [] K1 ?_ ?_
         ·left
          rw [List.nil_append]
          exact List.all_eq_true.2 b5
         ·refine ⟨N1++(N2++N3),p.1++q.1,p.2.1++(q.2.1++l),hm'.fr,⟨as',p.1,q.1,p.2.1,q.2.1,l,N1,N2,N3,by rw [List.nil_append],b5,rfl,rfl,rfl,b2,c2,g2⟩,by rw [←List.append_assoc];exact mv2.nd,fun h hh=> ?_,hm'.frn,hr⟩
          obtain ⟨k,hk,hkx⟩:=mv2.fr h (by rw [List.append_assoc];exact hh)
          have: ∃o,AV ro m'.ob k=some o∧FL o=true:=by
           rcases List.mem_append.1 hk with hk | hk
           ·exact g1 k hk
           ·exact c1.own k (by simpa using hk)
          obtain ⟨o,ho,how⟩:=this
          exact (hm'.own k o ho how).2 h hkx
    have hex:=EA (C:=C) (sgs:=sgs) (an:=an) (js:=js) (rm:=jO fn.results.toList) (nt:=fn.ntmps) (pv:=bpV g.ps as++(muV (CH g.ps) sv++rw_)) c 1 m (iO 0 ip.es) _ (TI 0 as) (jO fn.results.toList) [] _ (fun e env=>match e with
      | .ext _=>fun _=>False
      | .nor=>K5 C.P fn.results.toList [] env K1
      | .rt=>K5 C.P fn.results.toList [] env K1) hm hE hpin (fun e m' env' pins' env1' hk hm' hE' hP'=>by
     cases e with
     | nor=>exact hret m' env' pins' env1' hk hm' hE' hP'
     | ext i=>exact hk.elim
     | rt=>exact hret m' env' pins' env1' hk hm' hE' hP') h
    have hcl:cl C f as K1 s:=by
     refine kC an hf hmo (by rw [←hlen];exact hn) rfl ?_
     unfold sR
     rw [hbody]
     exact hex
    obtain ⟨v,s',hgo,M',vs',cs',z1,z2,z3,z4,z5,z6⟩:=hcl
    exact ⟨v,s',M',vs',cs',hgo,z1,z2,z3,z4,z5,z6⟩
   ·exact h.elim
end Go.Proofs.Ytklmcfpgdfibnaa.Eng
