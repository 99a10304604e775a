/- A part of the proof. -/
import Derived.Orders
import Derived.Below
import Derived.Room.AppendAsks
import Derived.Room.AppendOwn
import Derived.Laws.AppendOwn
import Derived.Laws.Concat
import Derived.Laws.CopyRow
import Derived.Laws.MakeOwn
import Derived.Laws.BytesString
namespace Go.Proofs.Ytklmcfpgdfibnaa.Eng
open Go Go.RowKit
structure Ob where
 cells:List Value
 own:Bool
structure St where
 n:Nat
 o:Nat→Option Ob
abbrev Q:=St→Prop
abbrev M1:=St→Option (Value×St)
abbrev Env:=List (Nat×Value)
def dJ:Value:= .nilFunc
def pt (h off:Nat):Value:= .pointer (some ⟨h,off,none⟩)
def sl (h off n e:Nat):Value:= .slice (some ⟨h,off,none⟩) n e
def nl:Value:= .slice none 0 0
def lk:Env→Nat→Value
 | [],_=>dJ
 | (d,v)::r,t=>match Nat.beq d t with
   | true=>v
   | false=>lk r t
def St.push (s:St) (ob:Ob):St:=⟨s.n+1,fun h=>if h=s.n then some ob else s.o h⟩
def St.put (s:St) (h:Nat) (x:Option Ob):St:=⟨s.n,fun k=>if k=h then x else s.o k⟩
def St.get (s:St) (h:Nat):Option Ob:=if h<s.n then s.o h else none
theorem St.sM (s:St) (ob:Ob) (k:Nat):(s.push ob).o k=if k=s.n then some ob else s.o k:=rfl
theorem St.lO (s:St) (h:Nat) (x:Option Ob) (k:Nat):(s.put h x).o k=if k=h then x else s.o k:=rfl
theorem St.G3 (s:St) (ob:Ob):(s.push ob).n=s.n+1:=rfl
theorem St.P1 (s:St) (h:Nat) (x:Option Ob):(s.put h x).n=s.n:=rfl
theorem St.II (s:St) (ob:Ob) (k:Nat):(s.push ob).get k=if k=s.n then some ob else s.get k:=by
 unfold St.get
 rw [St.G3,St.sM]
 by_cases h:k=s.n
 ·subst h;simp
 ·by_cases h2:k<s.n
  ·simp [h,h2];omega
  ·have: ¬k<s.n+1:=by omega
   simp [h,h2,this]
theorem St.fU (s:St) (h:Nat) (x:Option Ob) (k:Nat) (hh:h<s.n):(s.put h x).get k=if k=h then x else s.get k:=by
 unfold St.get
 rw [St.P1,St.lO]
 by_cases e:k=h
 ·subst e;simp [hh]
 ·simp [e]
theorem St.FK {s:St} {h:Nat} {ob:Ob} (hg:s.get h=some ob):h<s.n:=by
 unfold St.get at hg
 split at hg
 ·assumption
 ·cases hg
def cellsOf (v:Value):List Value:=v.cells.toList
def vok:Value→Bool
 | .nilFunc | .tuple _=>false
 | _=>true
def JP (ob:Ob) (off sz:Nat):Option (List Value):=if off+sz≤ob.cells.length then some ((ob.cells.drop off).take sz) else none
def CC (l:List Value) (off:Nat) (xs:List Value):List Value:=l.take off++xs++l.drop (off+xs.length)
def bnI (op:BinOp):Value→Value→Option Value
 | .int k a, .int k' b=>match op with
   | .shl=>if b<0 then none else some (.int k (k.wrap (a*2^min b.toNat k.bits)))
   | .shr=>if b<0 then none else some (.int k (a.fdiv (2^min b.toNat k.bits)))
   | _=>if k≠k' then none else match op with
     | .add=>some (.int k (k.wrap (a+b)))
     | .sub=>some (.int k (k.wrap (a-b)))
     | .mul=>some (.int k (k.wrap (a*b)))
     | .quo=>if b=0 then none else some (.int k (k.wrap (a.tdiv b)))
     | .rem=>if b=0 then none else some (.int k (a.tmod b))
     | .and=>some (.int k (k.wrap (BitVec.ofInt k.bits a&&& BitVec.ofInt k.bits b).toNat))
     | .or=>some (.int k (k.wrap (BitVec.ofInt k.bits a||| BitVec.ofInt k.bits b).toNat))
     | .xor=>some (.int k (k.wrap (BitVec.ofInt k.bits a^^^BitVec.ofInt k.bits b).toNat))
     | .eql=>some (.bool (a==b))
     | .neq=>some (.bool (a != b))
     | .lss=>some (.bool (a<b))
     | .leq=>some (.bool (a≤b))
     | .gtr=>some (.bool (a>b))
     | .geq=>some (.bool (a≥b))
     | _=>none
 | _,_=>none
def bnS (op:BinOp):Value→Value→Option Value
 | .string a, .string b=>match op with
   | .add=>if ((a.size+b.size:Nat):Int)>IntKind.i64.max then none else some (.string (a++b))
   | .eql=>some (.bool (a.toList==b.toList))
   | .neq=>some (.bool !(a.toList==b.toList))
   | _=>none
 | _,_=>none
def bnB (op:BinOp):Value→Value→Option Value
 | .bool a, .bool b=>match op with
   | .eql=>some (.bool (a==b))
   | .neq=>some (.bool !(a==b))
   | _=>none
 | _,_=>none
def bnP (op:BinOp):Value→Value→Option Value
 | .pointer a, .pointer none=>match op with
   | .eql=>some (.bool a.isNone)
   | .neq=>some (.bool !a.isNone)
   | _=>none
 | _,_=>none
def plain:Value→Bool
 | .bool _ | .int _ _ | .string _=>true
 | _=>false
def Q8 {α:Type} (P:Program):Sem α→Option α
 | .pure a=>some a
 | .program k=>Q8 P (k P)
 | _=>none
def bnA (P:Program) (op:BinOp) (t:TypeId):Value→Value→Option Value
 | .agg xs, .agg ys=>if xs.all plain&&ys.all plain then (match Q8 P (do eqGuard op t (.tmp 0) (.tmp 0) (.agg xs) (.agg ys);binOp op t (.agg xs) (.agg ys)) with
   | some (.bool b)=>some (.bool b)
   | _=>none) else none
 | _,_=>none
def un (op:UnOp):Value→Option Value
 | .bool b=>match op with
   | .not=>some (.bool !b)
   | _=>none
 | .int k n=>match op with
   | .neg=>some (.int k (k.wrap (0-n)))
   | .xor=>some (.int k (k.wrap (BitVec.ofInt k.bits (if k.signed then -1 else k.max)^^^BitVec.ofInt k.bits n).toNat))
   | _=>none
 | _=>none
def cvI (k:IntKind):Value→Option Value
 | .int _ n=>some (.int k (k.wrap n))
 | _=>none
def pk:Value→Value→Value→Option Value
 | .bool true,a,_=>some a
 | .bool false,_,b=>some b
 | _,_,_=>none
def ex (v:Value) (i:Nat):Option Value:=match v with
 | .tuple vs=>vs[i]?
 | _=>none
def lnS:Value→Option Value
 | .string s=>some (.int .i64 s.size)
 | _=>none
def lnL:Value→Option Value
 | .slice _ n _=>some (.int .i64 n)
 | _=>none
def mn:Value→Value→Option Value
 | .int k x, .int _ y=>some (.int k (if y<x then y else x))
 | _,_=>none
def nc:Value→Option Value
 | .pointer (some a)=>some (.pointer (some a))
 | _=>none
def fa (off:Nat):Value→Option Value
 | .pointer (some ⟨h,o,none⟩)=>some (pt h (o+off))
 | _=>none
def ia (sz:Nat):Value→Value→Option Value
 | .slice (some ⟨h,off,none⟩) n _, .int _ i=>if 0≤i∧i<n then some (pt h (off+i.toNat*sz)) else none
 | _,_=>none
def iaA (n sz:Nat):Value→Value→Option Value
 | .pointer (some ⟨h,off,none⟩), .int _ i=>if 0≤i∧i<n then some (pt h (off+i.toNat*sz)) else none
 | _,_=>none
def ix:Value→Value→Option Value
 | .string s, .int _ i=>if 0≤i then (s[i.toNat]?).map fun b=> .int .u8 b.toNat else none
 | _,_=>none
def bnd (d:Nat):Option Value→Option Nat
 | none=>some d
 | some (.int _ i)=>if 0≤i then some i.toNat else none
 | _=>none
def scS (x:Value) (lo hi:Option Value):Option Value:=match x with
 | .string s=>(bnd s.size hi).bind fun h=>(bnd 0 lo).bind fun l=>if l≤h∧h≤s.size then some (.string (s.extract l h)) else none
 | _=>none
def scL (sz:Nat) (x:Value) (lo hi:Option Value):Option Value:=match x with
 | .slice (some ⟨a,off,none⟩) n e=>(bnd n hi).bind fun h=>(bnd 0 lo).bind fun l=>if l≤h∧h≤n∧e=sz then some (sl a (off+l*sz) (h-l) sz) else none
 | .slice none n _=>(bnd n hi).bind fun h=>(bnd 0 lo).bind fun l=>if l=0∧h=0 then some nl else none
 | _=>none
def LS (cells:List Value):List (Nat×Nat×Value)→Option (List Value)
 | []=>some cells
 | (off,size,v)::r=>if vok v&&(cellsOf v).length==size&&off+size≤cells.length then LS (CC cells off (cellsOf v)) r else none
def bd (zero:List Value) (parts:List (Nat×Nat×Value)):Option Value:=(LS zero parts).map fun cs=> .agg cs.toArray
def ld (agg:Bool) (sz:Nat) (a:Value):M1:=fun s=>match a with
 | .pointer (some ⟨h,off,none⟩)=>(s.get h).bind fun ob=>(JP ob off sz).bind fun cs=>
   match agg with
   | true=>some (.agg cs.toArray,s)
   | false=>match cs with
     | [c]=>some (c,s)
     | _=>none
 | _=>none
def sto (sz:Nat) (a v:Value):M1:=fun s=>match a with
 | .pointer (some ⟨h,off,none⟩)=>(s.get h).bind fun ob=>
   if ob.own&&vok v&&(cellsOf v).length==sz&&off+sz≤ob.cells.length then some (undef,s.put h (some {ob with cells:=CC ob.cells off (cellsOf v)})) else none
 | _=>none
def al (z:List Value):M1:=fun s=>some (pt s.n 0,s.push ⟨z,true⟩)
def bx (v:Value):M1:=fun s=>if vok v then some (pt s.n 0,s.push ⟨cellsOf v,true⟩) else none
def L5 (n:Nat) (z:List Value):List Value:=(List.replicate n z).flatten
def bs (sz len:Nat) (zero:List Value) (parts:List (Nat×Nat×Value)):M1:=fun s=>
 (LS (L5 len zero) parts).map fun cs=>(sl s.n 0 len sz,s.push ⟨cs,true⟩)
def mk (bytes sz:Nat) (zero:List Value) (len cap:Value):M1:=fun s=>match len,cap with
 | .int .i64 n, .int .i64 c=>if 0≤n∧c=n∧bytes*n≤2^48 then some (sl s.n 0 n.toNat sz,s.push ⟨L5 n.toNat zero,true⟩) else none
 | _,_=>none
def St.got (s:St) (sz:Nat):Value→Option (List Value)
 | .slice none _ _=>some []
 | .slice (some ⟨h,off,none⟩) n e=>if n=0 then some [] else if e=sz then (s.get h).bind fun ob=>JP ob off (n*sz) else none
 | _=>none
def XG (b:ByteArray):Value→ByteArray
 | .int _ n=>b.push (UInt8.ofNat n.toNat)
 | _=>b
def isByte:Value→Bool
 | .int .u8 _=>true
 | _=>false
def b2s (x:Value):M1:=fun s=>(s.got 1 x).bind fun cs=>if cs.all isByte then some (.string (cs.foldl XG ByteArray.empty),s) else none
def ap (sz bytes:Nat) (x y:Value):M1:=fun s=>(s.got sz y).bind fun new=>
 match x with
 | .slice none _ _=>match new with
   | []=>some (nl,s)
   | c::cs=>if (c::cs).length/sz*bytes≤2^47 then some (sl s.n 0 ((c::cs).length/sz) sz,s.push ⟨c::cs,true⟩) else none
 | .slice (some ⟨h,off,none⟩) n e=>(s.get h).bind fun ob=>(JP ob off (n*sz)).bind fun old=>
   if decide ((n+new.length/sz)*bytes≤2^47)&&ob.own&&e==sz&&(match y with
    | .slice (some b) m _=>m==0||b.block != h||decide (off+(n+m)*sz≤ob.cells.length)
    | _=>true) then some (sl s.n 0 (n+new.length/sz) sz,(s.put h none).push ⟨old++new,true⟩) else none
 | _=>none
inductive Stp where
 | val (v:Value)
 | pure (r:Option Value)
 | rd (w:Value) (g:M1)
 | al (g:M1)
 | mu (g:M1)
 | call (f:FuncId) (args:List Value)
def I1:Value→Bool
 | .bool _ | .int _ _ | .string _ | .pointer none | .slice none 0 0=>true
 | _=>false
def UI:Value→Value
 | .bool b=> .bool b
 | .int k n=> .int k n
 | .string s=> .string s
 | .pointer none=> .pointer none
 | .slice none 0 0=> .slice none 0 0
 | .agg cs=>if cs.toList.all I1 then .agg cs else dJ
 | _=>dJ
def ev (env:Env):Operand→Value
 | .tmp t=>lk env t
 | .const v=>UI v
 | _=>dJ
def szT (P:Program) (t:TypeId):Option Nat:=(P.info? t).map (·.size)
def X9:TypeDesc→Bool
 | .struct _ | .array _ _=>true
 | _=>false
def WQ (P:Program) (t:TypeId):Option Bool:=(P.underlying t).map X9
def IC (P:Program) (t:TypeId):Option (List Value×Nat×Nat):=(P.info? t).bind fun i=>i.zero.bind fun z=>
 if (cellsOf z).length==i.size&&(cellsOf z).all I1 then some (cellsOf z,i.size,i.bytes) else none
def HT (P:Program) (env:Env) (fields:Array Field):List (Nat×Operand)→Option (List (Nat×Nat×Value))
 | []=>some []
 | (i,x)::r=>(fields[i]?).bind fun f=>(szT P f.type).bind fun sz=>(HT P env fields r).map fun l=>(f.offset,sz,ev env x)::l
def F7 (env:Env) (sz:Nat):List (Nat×Operand)→List (Nat×Nat×Value)
 | []=>[]
 | (i,x)::r=>(i*sz,sz,ev env x)::F7 env sz r
def V1 (P:Program) (fields:Array Field):Bool:=fields.all fun f=>(szT P f.type).isSome
def BC (P:Program) (env:Env) (o:Oper):Option Stp:=match o.op with
 | .move x | .assign x=>some (.val (ev env x))
 | .pick c a b=>some (.pure (pk (ev env c) (ev env a) (ev env b)))
 | .alloc t=>(IC P t).map fun z=> .al (al z.1)
 | .box _ x=>some (.al (bx (ev env x)))
 | .build t parts=>(IC P t).bind fun z=>match P.underlying t with
   | some (.struct fields)=>if V1 P fields then (HT P env fields parts.toList).map fun ps=> .pure (bd z.1 ps) else none
   | some (.array _ e)=>(szT P e).map fun sz=> .pure (bd z.1 (F7 env sz parts.toList))
   | _=>none
 | .buildSlice t len parts=>match P.underlying t with
   | some (.slice e)=>(IC P e).bind fun z=>if 0<z.2.1&&len*z.2.1≤2^24 then some (.al (bs z.2.1 len z.1 (F7 env z.2.1 parts.toList))) else none
   | _=>none
 | .load t a=>(szT P t).bind fun sz=>(WQ P t).map fun ag=> .rd (ev env a) (ld ag sz (ev env a))
 | .store t a v=>(szT P t).map fun sz=> .mu (sto sz (ev env a) (ev env v))
 | .nilCheck x=>some (.pure (nc (ev env x)))
 | .binOp op t x y _=>match P.underlying t with
   | some (.int _)=>some (.pure (bnI op (ev env x) (ev env y)))
   | some .string=>some (.pure (bnS op (ev env x) (ev env y)))
   | some .bool=>some (.pure (bnB op (ev env x) (ev env y)))
   | some (.pointer _)=>some (.pure (bnP op (ev env x) (ev env y)))
   | some (.struct _)=>some (.pure (bnA P op t (ev env x) (ev env y)))
   | _=>none
 | .unOp op _ x=>some (.pure (un op (ev env x)))
 | .convert src dst x=>match P.underlying src,P.underlying dst with
   | some (.int _),some (.int k)=>some (.pure (cvI k (ev env x)))
   | some (.slice e),some .string=>match P.underlying e with
     | some (.int .u8)=>some (.rd (ev env x) (b2s (ev env x)))
     | _=>none
   | _,_=>none
 | .makeSlice t l c=>match P.underlying t with
   | some (.slice e)=>(IC P e).bind fun z=>if 0<z.2.1&&0<z.2.2 then some (.al (mk z.2.2 z.2.1 z.1 (ev env l) (ev env c))) else none
   | _=>none
 | .slice t x lo hi none=>match P.underlying t with
   | some .string=>some (.pure (scS (ev env x) (lo.map (ev env)) (hi.map (ev env))))
   | some (.slice e)=>(szT P e).map fun sz=> .pure (scL sz (ev env x) (lo.map (ev env)) (hi.map (ev env)))
   | _=>none
 | .fieldAddr t x i=>match P.underlying t with
   | some (.struct fields)=>(fields[i]?).bind fun f=>(szT P f.type).bind fun sz=>if sz=0 then none else some (.pure (fa f.offset (ev env x)))
   | _=>none
 | .indexAddr t x i=>match P.underlying t with
   | some (.slice e)=>(szT P e).map fun sz=> .pure (ia sz (ev env x) (ev env i))
   | some (.array n e)=>(szT P e).map fun sz=> .pure (iaA n sz (ev env x) (ev env i))
   | _=>none
 | .index t x i=>match P.underlying t with
   | some .string=>some (.pure (ix (ev env x) (ev env i)))
   | _=>none
 | .extract x i=>some (.pure (ex (ev env x) i))
 | .call c=>match c.callee with
   | .value (.func f)=>match (P.funcs[f]?).bind (·.body) with
     | some _ => if ((P.funcs[f]?).map (·.name)).getD "" == "runtime.NumGoroutine" then none else some (.call f (c.args.toList.map (ev env)))
     | none=>none
   | .builtin .len=>match c.argTypes.toList,c.args.toList with
     | [t],[x]=>match P.underlying t with
       | some .string=>some (.pure (lnS (ev env x)))
       | some (.slice _)=>some (.pure (lnL (ev env x)))
       | _=>none
     | _,_=>none
   | .builtin .min=>match c.args.toList with
     | [x,y]=>some (.pure (mn (ev env x) (ev env y)))
     | _=>none
   | .builtin .append=>match c.argTypes.toList,c.args.toList with
     | [t,u],[x,y]=>if t==u then match P.underlying t with
       | some (.slice e)=>(IC P e).bind fun z=>if 0<z.2.1&&0<z.2.2 then some (.mu (ap z.2.1 z.2.2 (ev env x) (ev env y))) else none
       | _=>none
       else none
     | _,_=>none
   | _=>none
 | _=>none
structure Pl where
 b:Nat
 o:Nat
 sz:Nat
 own:Bool
abbrev Rho:=Nat→Option Pl
def CR (ρ:Rho):Value→Value→Prop
 | .pointer (some ⟨h,off,none⟩),u=> ∃p,ρ h=some p∧u= .pointer (some ⟨p.b,p.o+off,none⟩)
 | .pointer none,u=>u= .pointer none
 | .slice (some ⟨h,off,none⟩) n e,u=> ∃p a c,ρ h=some p∧u= .slice a n c∧n≤c∧(n≠0→a=some ⟨p.b,p.o+off,none⟩)∧
   (p.own=true→p.o+off+c*e=p.sz∧ ∃o',a=some ⟨p.b,o',none⟩∧o'≤p.sz∧(c≠0→o'=p.o+off))
 | .slice none n _,u=>n=0∧u= .slice none 0 0
 | .bool b,u=>u= .bool b
 | .int k n,u=>u= .int k n
 | .string s,u=>u= .string s
 | _,_=>False
def EF (R:Value→Value→Prop):List Value→List Value→Prop
 | [],[]=>True
 | x::xs,y::ys=>R x y∧EF R xs ys
 | _,_=>False
def V2 (ρ:Rho):Value→Value→Prop
 | .nilFunc,_=>True
 | .agg cs,u=> ∃ds,u= .agg ds∧EF (CR ρ) cs.toList ds.toList
 | .tuple _,_=>False
 | v,u=>CR ρ v u
def VR (ρ:Rho):Value→Value→Prop
 | .tuple vs,u=> ∃us,u= .tuple us∧EF (V2 ρ) vs.toList us.toList
 | v,u=>V2 ρ v u
def Con (B0:Nat) (ρ:Rho) (W:World) (p:Pl) (ob:Ob):Prop:=
 ob.own=p.own∧(∀i x,ob.cells[i]? =some x→ ∃u,W.cell? ⟨p.b,p.o+i,none⟩=some u∧CR ρ x u)∧
 (p.own=true→B0≤p.b∧ ∃cs e,W.heap[p.b]? =some (.cells cs e (0,0))∧cs.size=p.sz∧p.o+ob.cells.length≤p.sz)∧
 (p.own=false→ob.cells=[]∨p.b<B0)
structure Ctx where
 P:Program
 w0:World
structure Rel (C:Ctx) (ρ:Rho) (s:St) (W:World):Prop where
 con: ∀h p ob,ρ h=some p→s.get h=some ob→Con C.w0.heap.size ρ W p ob
 inj: ∀h h' p p' ob ob',ρ h=some p→ρ h'=some p'→s.get h=some ob→s.get h'=some ob'→p.own=true→p'.own=true→p.b=p'.b→h=h'
 bel:Below C.w0.heap.size C.w0 W
def SP (ρ:Rho) (s:St) (k:Nat):Prop:= ∃h p ob,ρ h=some p∧s.get h=some ob∧p.own=true∧p.b=k
def Sub (ρ ρ':Rho):Prop:= ∀h p,ρ h=some p→ρ' h=some p
def TQ (ρ:Rho) (m n:Nat):Prop:= ∀h,m≤h→h<n→ρ h=none
structure Way (ρ:Rho) (s:St) (W:World) (ρ':Rho) (s':St) (W':World):Prop where
 n:s.n≤s'.n
 sub:Sub ρ ρ'
 agree: ∀h,(h<s.n∨s'.n≤h)→ρ' h=ρ h
 size:W.heap.size≤W'.heap.size
 frame: ∀k,k<W.heap.size→ ¬SP ρ s k→W'.heap[k]? =W.heap[k]?
 own: ∀k,k<W.heap.size→SP ρ' s' k→SP ρ s k
def kI (C:Ctx) (f:FuncId) (args:List Value) (s:St) (v:Value) (s':St):Prop:=
 s.n≤s'.n∧ ∀ρ W vs,TQ ρ s.n s'.n→Rel C ρ s W→EF (VR ρ) args vs→Calls C.P f vs.toArray W fun
   | .returned u,W'=> ∃ρ',Way ρ s W ρ' s' W'∧Rel C ρ' s' W'∧VR ρ' v u
   | .outgrown,_=>False
   | .panicked _,_=>False
def pr (r:Option Value) (K:Value→Q):Q:=fun s=> ∃v,r=some v∧K v s
def mm (g:M1) (K:Value→Q):Q:=fun s=> ∃v s',g s=some (v,s')∧K v s'
def cl (C:Ctx) (f:FuncId) (args:List Value) (K:Value→Q):Q:=fun s=> ∃v s',kI C f args s v s'∧K v s'
def gM (g:Value) (want:Bool) (m:(Value→Q)→Q) (K:Value→Q):Q:=fun s=>
 (g= .bool want∧m K s)∨((g= .bool !want∨g=undef)∧K undef s)
def cnd (g:Value) (p q:Q):Q:=fun s=>(g= .bool true∧p s)∨(g= .bool false∧q s)
def fN (f:List Value→Q) (g:(List Value→Q)→Q):Q:=g f
def WZ (F:(List Value→Q)→List Value→Q) (xs:List Value):Q:=fun s=> ∀R:List Value→Q,(∀xs s,F R xs s→R xs s)→R xs s
def handle:Value→Option Nat
 | .pointer (some a)=>some a.block
 | .slice (some a) _ _=>some a.block
 | _=>none
def MS (v:Value) (s s':St):Prop:= ∀h,handle v=some h→s'.get h=s.get h
def mon (ws:List Value) (m:(Value→Q)→Q) (K:Value→St→St→Q):Q:=fun s=>m (fun v s'=>(∀w∈ws,MS w s s')∧K v s s' s') s
def gN (g:Value) (want:Bool) (m:(Value→St→St→Q)→Q) (K:Value→St→St→Q):Q:=fun s=>
 (g= .bool want∧m K s)∨((g= .bool !want∨g=undef)∧K undef s s s)
def sam (w:Value) (l:List (St×St)) (q:Q):Q:=fun s=>(∀x∈l,MS w x.1 x.2)∧q s
inductive Ex where
 | nor
 | ext (id:Nat)
 | rt
abbrev Kap:=Ex→Env→Q
def FA (dst:Option Tmp) (v:Value) (env:Env):Env:=match dst with
 | some d=>(d,v)::env
 | none=>env
def KZ (C:Ctx):Stp→(Value→Q)→Q
 | .val v,K=>K v
 | .pure r,K=>pr r K
 | .rd _ g,K=>mm g K
 | .al g,K=>mm g K
 | .mu g,K=>mm g K
 | .call f args,K=>cl C f args K
def X3 (C:Ctx) (env:Env) (o:Oper) (K:Value→Q):Q:=match BC C.P env o with
 | some st=>KZ C st K
 | none=>fun _=>False
def C6 (ops:Array Oper) (j:Nat):Option Tmp:=(ops[j]?).bind (·.dst)
def gdd (ops:Array Oper) (env:Env) (o:Oper) (m:(Value→Q)→Q) (K:Value→Q):Q:=match o.guard with
 | none=>m K
 | some (j,want)=>match C6 ops j with
   | some t=>gM (lk env t) want m K
   | none=>fun _=>False
def OJ (C:Ctx) (ops:Array Oper):List Oper→Env→(Env→Q)→Q
 | [],env,K=>K env
 | o::r,env,K=>gdd ops env o (X3 C env o) fun v=>OJ C ops r (FA o.dst v env) K
def G7 (L:List Nat) (i j:Nat):Bool:= !((L.getD i 0).testBit j)&& !((L.getD j 0).testBit i)
def CV {α:Type} (L:List Nat) (i:Nat):List (Nat×α)→List α
 | []=>[]
 | (j,x)::r=>match G7 L i j with
   | true=>x::CV L i r
   | false=>CV L i r
def ZF:Stp→Bool
 | .mu _ | .call _ _=>true
 | _=>false
def MM (P:Program) (L:List Nat) (i:Nat):Nat→List Oper→Bool
 | _,[]=>false
 | j,o::r=>(match o.op with
   | .load _ _ | .alloc _ | .box _ _ | .buildSlice _ _ _ | .makeSlice _ _ _=>G7 L i j&& !(i==j)
   | .convert _ _ _=>G7 L i j&& !(i==j)
   | _=>false)||MM P L i (j+1) r
def lA (w:Value) (l:List (St×St)) (g:M1):(Value→Q)→Q:=match l with
 | []=>mm g
 | _::_=>fun K=>sam w l (mm g K)
def B3 (C:Ctx) (ops:Array Oper) (L:List Nat):Nat→List Oper→Env→List (Nat×Value)→List (Nat×St×St)→(Env→Q)→Q
 | _,[],env,_,_,K=>K env
 | i,o::r,env,past,pend,K=>match BC C.P env o with
   | none=>fun _=>False
   | some st=>match st with
     | .rd w g=>gdd ops env o (lA w (CV L i pend) g) fun v=>B3 C ops L (i+1) r (FA o.dst v env) ((i,w)::past) pend K
     | .al g=>gdd ops env o (mm g) fun v=>B3 C ops L (i+1) r (FA o.dst v env) ((i,v)::past) pend K
     | .val v=>gdd ops env o (fun K'=>K' v) fun v=>B3 C ops L (i+1) r (FA o.dst v env) past pend K
     | .pure x=>gdd ops env o (pr x) fun v=>B3 C ops L (i+1) r (FA o.dst v env) past pend K
     | st=>match MM C.P L i 0 ops.toList with
       | false=>gdd ops env o (KZ C st) fun v=>B3 C ops L (i+1) r (FA o.dst v env) past pend K
       | true=>match o.guard with
         | some (j,want)=>(match C6 ops j with
           | some t=>gN (lk env t) want (mon (CV L i past) (KZ C st)) fun v a b=>B3 C ops L (i+1) r (FA o.dst v env) past ((i,a,b)::pend) K
           | none=>fun _=>False)
         | none=>mon (CV L i past) (KZ C st) fun v a b=>B3 C ops L (i+1) r (FA o.dst v env) past ((i,a,b)::pend) K
def cS (L:List Nat) (o:Oper):Nat:=o.after.toList.foldl (fun s e=>match Region.binds .any e with
 | true=>s||| 2^e.on||| L.getD e.on 0
 | false=>s) 0
def ON (o:Oper):Bool:=match o.op with
 | .store _ _ _=>true
 | .call c=>(match c.callee with | .builtin .append=>true | .builtin _=>false | _=>true)
 | _=>false
def ZS (L:List Nat) (ops:Array Oper) (i j:Nat) (x y:Oper):Bool:= !(G7 L i j)||(Oper.apart ops x y&& !(ON x&&ON y))
def YP (L:List Nat) (ops:Array Oper) (i:Nat) (x:Oper):Nat→List Oper→Bool
 | _,[]=>true
 | j,y::r=>ZS L ops i j x y&&YP L ops i x (j+1) r
def ND (L:List Nat) (ops:Array Oper):Nat→List Oper→Bool
 | _,[]=>true
 | i,o::r=>(L.getD i 0==cS L o)&&o.after.all (fun e=>e.on<i|| !(Region.binds .any e))&&YP L ops i o (i+1) r&&ND L ops (i+1) r
def bitsOf (m:Nat):Nat→List Nat
 | 0=>[]
 | n+1=>match m.testBit n with
   | true=>bitsOf m n++[n]
   | false=>bitsOf m n
def proj (L:List Nat) (env:Env):List Value:=L.map (lk env)
def nx (xs:List Value) (i:Nat):Value:=xs.getD i dJ
def inj:List Nat→Nat→List Value→Env
 | [],_,_=>[]
 | t::r,i,xs=>(t,nx xs i)::inj r (i+1) xs
def look:List (Nat×Nat)→Nat→Nat
 | [],_=>0
 | (a,m)::r,id=>match Nat.beq a id with
   | true=>m
   | false=>look r id
def clr (m t:Nat):Nat:=match m.testBit t with
 | true=>m-2^t
 | false=>m
def pN (m t:Nat):Nat:=m||| 2^t
def fZ:List Oper→Nat→Array Oper→Nat
 | [],lo,_=>lo
 | o::r,lo,ops=>
   let lo:=fZ r lo ops
   let lo:=match o.dst with | some d=>clr lo d | none=>lo
   let lo:=match o.guard with | some (j,_)=>(match C6 ops j with | some t=>pN lo t | none=>lo) | none=>lo
   o.op.operands.toList.foldl (fun m x=>match x with | .tmp t=>pN m t | _=>m) lo
def live (rm:Nat):Code→Nat→List (Nat×Nat)→Nat
 | .skip,lo,_=>lo
 | .region _ ops _,lo,_=>fZ ops.toList lo ops
 | .seq a b,lo,exs=>live rm a (live rm b lo exs) exs
 | .cond c x y,lo,exs=>(match c with | .tmp t=>pN (live rm x lo exs||| live rm y lo exs) t | _=>live rm x lo exs||| live rm y lo exs)
 | .block id c,lo,exs=>live rm c lo ((id,lo)::exs)
 | .loop c,_,exs=>live rm c (live rm c 0 exs) exs
 | .exit id,_,exs=>look exs id
 | .ret,_,_=>rm
 | _,_,_=>0
def V7 (id:Nat):Code→Nat
 | .seq a b=>V7 id a+V7 id b
 | .cond _ x y=>V7 id x+V7 id y
 | .block _ c=>V7 id c
 | .loop c=>V7 id c
 | .exit i=>match Nat.beq i id with | true=>1 | false=>0
 | _=>0
def ends:Code→Nat
 | .seq _ b=>ends b
 | .cond _ x y=>ends x+ends y
 | .block id c=>ends c+V7 id c
 | .skip=>1
 | .region _ _ _=>1
 | _=>0
def Z8:List (Nat×List Nat)→Nat→Option (List Nat)
 | [],_=>none
 | (a,m)::r,id=>match Nat.beq a id with
   | true=>some m
   | false=>Z8 r id
def m4 (id:Nat) (κ:Kap):Kap:=fun e=>match e with
 | .ext i=>match Nat.beq i id with
   | true=>κ .nor
   | false=>κ (.ext i)
 | .nor=>κ .nor
 | .rt=>κ .rt
def XC (f:Env→Q) (κ:Kap):Kap:=fun e=>match e with
 | .nor=>f
 | .ext i=>κ (.ext i)
 | .rt=>κ .rt
def exec (C:Ctx) (an:List (Nat×List Nat)) (rm nt:Nat):Code→Env→Nat→List (Nat×Nat)→Kap→Q
 | .skip,env,_,_,κ=>κ .nor env
 | .region _ ops false,env,_,_,κ=>OJ C ops ops.toList env (κ .nor)
 | .region id ops true,env,_,_,κ=>match Z8 an id with
   | none=>fun _=>False
   | some L=>match ND L ops 0 ops.toList with
     | true=>B3 C ops L 0 ops.toList env [] [] (κ .nor)
     | false=>fun _=>False
 | .seq a b,env,lo,exs,κ=>
   let lb:=live rm b lo exs
   match Nat.ble (ends a) 1 with
   | true=>exec C an rm nt a env lb exs (XC (fun env'=>exec C an rm nt b env' lo exs κ) κ)
   | false=>fN (fun xs=>exec C an rm nt b (inj (bitsOf lb nt) 0 xs) lo exs κ) fun j=>
     exec C an rm nt a env lb exs (XC (fun env'=>j (proj (bitsOf lb nt) env')) κ)
 | .cond c x y,env,lo,exs,κ=>cnd (ev env c) (exec C an rm nt x env lo exs κ) (exec C an rm nt y env lo exs κ)
 | .block id c,env,lo,exs,κ=>exec C an rm nt c env lo ((id,lo)::exs) (m4 id κ)
 | .loop c,env,_,exs,κ=>
   let ll:=live rm (.loop c) 0 exs
   WZ (fun self xs=>exec C an rm nt c (inj (bitsOf ll nt) 0 xs) ll exs (XC (fun env'=>self (proj (bitsOf ll nt) env')) κ)) (proj (bitsOf ll nt) env)
 | .exit id,env,_,_,κ=>κ (.ext id) env
 | .ret,env,_,_,κ=>κ .rt env
 | _,_,_,_,_=>fun _=>False
def TI:Nat→List Value→Env
 | _,[]=>[]
 | i,v::r=>(i,v)::TI (i+1) r
def xP:ResultVar→Tmp
 | .tmp t=>t
 | .cell t _=>t
def MG:Value→Bool
 | .tuple _=>false
 | _=>true
def ntp (vs:List Value) (q:Q):Q:=fun s=>vs.all MG=true∧q s
def K5 (P:Program):List ResultVar→List Value→Env→(Value→Q)→Q
 | [],acc,_,K=>match acc with
   | [v]=>K v
   | vs=>ntp vs (K (.tuple vs.toArray))
 | .tmp t::r,acc,env,K=>K5 P r (acc++[lk env t]) env K
 | .cell a t::r,acc,env,K=>match szT P t,WQ P t with
   | some sz,some ag=>mm (ld ag sz (lk env a)) fun v=>K5 P r (acc++[v]) env K
   | _,_=>fun _=>False
def jO (rs:List ResultVar):Nat:=rs.foldl (fun m r=>pN m (xP r)) 0
def sR (C:Ctx) (an:List (Nat×List Nat)) (fn:Func) (args:List Value) (K:Value→Q):Q:=
 match fn.body with
 | some c=>exec C an (jO fn.results.toList) fn.ntmps c (TI 0 args) (jO fn.results.toList) [] (fun e env=>match e with
   | .ext _=>fun _=>False
   | .nor=>K5 C.P fn.results.toList [] env K
   | .rt=>K5 C.P fn.results.toList [] env K)
 | none=>fun _=>False
def VU (nt:Nat) (ops:Array Oper):Bool:=ops.all fun o=>match o.dst with
 | some d=>Nat.blt d nt
 | none=>true
def fits (nt:Nat):Code→Bool
 | .region _ ops _=>VU nt ops
 | .seq a b=>fits nt a&&fits nt b
 | .cond _ x y=>fits nt x&&fits nt y
 | .block _ c=>fits nt c
 | .loop c=>fits nt c
 | _=>true
def eE (fn:Func) (n:Nat):Bool:=Nat.ble n fn.ntmps&&match fn.body with
 | some c=>fits fn.ntmps c
 | none=>false
end Go.Proofs.Ytklmcfpgdfibnaa.Eng
namespace Go.Proofs.Ytklmcfpgdfibnaa.Eng
open Go Go.RowKit
set_option linter.unusedVariables false
set_option linter.unusedSimpArgs false
theorem Sub.refl (ρ:Rho):Sub ρ ρ:=fun _ _ h=>h
theorem Sub.trans {a b c:Rho} (h:Sub a b) (k:Sub b c):Sub a c:=fun x p hp=>k x p (h x p hp)
theorem LK {ρ ρ':Rho} (hs:Sub ρ ρ') {v u:Value} (h:CR ρ v u):CR ρ' v u:=by
 unfold CR at h
 split at h <;> first
  | exact h.elim
  | (subst h;rfl)
  | (obtain ⟨p,hp,rfl⟩:=h;exact ⟨p,hs _ _ hp,rfl⟩)
  | (obtain ⟨p,a,c,hp,r⟩:=h;exact ⟨p,a,c,hs _ _ hp,r⟩)
  | exact h
theorem PH {R R':Value→Value→Prop} (hr: ∀x y,R x y→R' x y): ∀{l m:List Value},EF R l m→EF R' l m
 | [],[],_=>trivial
 | x::xs,y::ys,h=>⟨hr _ _ h.1,PH hr h.2⟩
 | [],_::_,h=>h.elim
 | _::_,[],h=>h.elim
theorem fR {ρ ρ':Rho} (hs:Sub ρ ρ') {v u:Value} (h:V2 ρ v u):V2 ρ' v u:=by
 cases v with
 | nilFunc=>trivial
 | agg cs=>obtain ⟨ds,rfl,h⟩:=h;exact ⟨ds,rfl,PH (fun _ _=>LK hs) h⟩
 | tuple vs=>exact h.elim
 | _=>simp only [V2] at h ⊢;exact LK hs h
theorem YZ {ρ ρ':Rho} (hs:Sub ρ ρ') {v u:Value} (h:VR ρ v u):VR ρ' v u:=by
 cases v with
 | tuple cs=>obtain ⟨ds,rfl,h⟩:=h;exact ⟨ds,rfl,PH (fun _ _=>fR hs) h⟩
 | _=>simp only [VR] at h ⊢;exact fR hs h
theorem CZ {R:Value→Value→Prop}: ∀{l m:List Value},EF R l m→l.length=m.length
 | [],[],_=>rfl
 | x::xs,y::ys,h=>by simp [CZ h.2]
 | [],_::_,h=>h.elim
 | _::_,[],h=>h.elim
theorem IL {R:Value→Value→Prop}: ∀{l m:List Value} (i:Nat) (x:Value),EF R l m→l[i]? =some x→ ∃y,m[i]? =some y∧R x y
 | [],[],i,x,_,h=>by simp at h
 | a::l,b::m,0,x,h,hx=>by simp at hx;subst hx;exact ⟨b,rfl,h.1⟩
 | a::l,b::m,i+1,x,h,hx=>by simp at hx ⊢;exact IL i x h.2 hx
 | [],_::_,_,_,h,_=>h.elim
 | _::_,[],_,_,h,_=>h.elim
theorem eT {R:Value→Value→Prop}: ∀{l m:List Value},l.length=m.length→(∀(i:Nat) x y,l[i]? =some x→m[i]? =some y→R x y)→EF R l m
 | [],[],_,_=>trivial
 | a::l,b::m,hl,h=>⟨h 0 a b rfl rfl,eT (by simpa using hl) fun i x y hx hy=>h (i+1) x y (by simpa using hx) (by simpa using hy)⟩
 | [],_::_,hl,_=>by simp at hl
 | _::_,[],hl,_=>by simp at hl
theorem HB {R:Value→Value→Prop}: ∀{l m l' m':List Value},EF R l m→EF R l' m'→EF R (l++l') (m++m')
 | [],[],_,_,_,h=>h
 | _::_,_::_,_,_,h,h'=>⟨h.1,HB h.2 h'⟩
 | [],_::_,_,_,h,_=>h.elim
 | _::_,[],_,_,h,_=>h.elim
theorem XR {R:Value→Value→Prop}: ∀(n:Nat) {l m:List Value},EF R l m→EF R (l.take n) (m.take n)
 | 0,_,_,_=>by simp [EF]
 | n+1,[],[],_=>by simp [EF]
 | n+1,_::_,_::_,h=>by simp only [List.take_succ_cons];exact ⟨h.1,XR n h.2⟩
 | _+1,[],_::_,h=>h.elim
 | _+1,_::_,[],h=>h.elim
theorem XV {R:Value→Value→Prop}: ∀(n:Nat) {l m:List Value},EF R l m→EF R (l.drop n) (m.drop n)
 | 0,_,_,h=>by simpa using h
 | n+1,[],[],_=>by simp [EF]
 | n+1,_::_,_::_,h=>by simp only [List.drop_succ_cons];exact XV n h.2
 | _+1,[],_::_,h=>h.elim
 | _+1,_::_,[],h=>h.elim
def VRE (ρ:Rho) (env:Env) (a:Act):Prop:= ∀t,VR ρ (lk env t) (a.tmps.getD t undef)
theorem RG (ρ:Rho) (u:Value):VR ρ dJ u:=trivial
theorem NA (d:Nat) (v:Value) (env:Env) (t:Nat):lk ((d,v)::env) t=if d=t then v else lk env t:=by
 simp only [lk]
 by_cases h:d=t
 ·subst h;simp
 ·have:Nat.beq d t=false:=by
   cases hb:Nat.beq d t
   ·rfl
   ·exact absurd (Nat.eq_of_beq_eq_true hb) h
  simp [this,h]
theorem qJ {ρ:Rho} {env:Env} {a:Act} {v u:Value} {dst:Option Tmp} (h:VRE ρ env a) (hv:VR ρ v u) (hd: ∀d,dst=some d→d<a.tmps.size):
  VRE ρ (FA dst v env) (a.put dst u):=by
 cases dst with
 | none=>exact h
 | some d=>
   intro t
   have:=hd d rfl
   simp only [FA,NA,Act.put]
   by_cases ht:d=t
   ·subst ht;simpa [this] using hv
   ·simpa [ht,Array.getElem?_setIfInBounds_ne ht] using h t
theorem mG {ρ ρ':Rho} (hs:Sub ρ ρ') {env:Env} {a:Act} (h:VRE ρ env a):VRE ρ' env a:=fun t=>YZ hs (h t)
theorem X4 {ρ:Rho} {v:Value} (h:I1 v=true):CR ρ v v:=by
 unfold I1 at h
 split at h <;> first | (simp [CR];done) | (cases h)
theorem jM (ρ:Rho) (v:Value):VR ρ (UI v) v:=by
 unfold UI
 split <;> first
  | (simp [VR,V2,CR];done)
  | exact RG _ _
  | skip
 ·split
  ·rename_i cs hc
   refine ⟨cs,rfl, ?_⟩
   generalize cs.toList=l at hc
   induction l with
   | nil=>trivial
   | cons x xs ih=>simp at hc;exact ⟨X4 hc.1,ih (by simpa using hc.2)⟩
  ·trivial
theorem C3 {ρ:Rho} {env:Env} {a:Act} (h:VRE ρ env a) (x:Operand):VR ρ (ev env x) (a.eval x):=by
 cases x with
 | tmp t=>exact h t
 | const v=>exact jM ρ v
 | global g=>trivial
 | func f=>trivial
section inv
variable {ρ:Rho} {u:Value}
theorem J8 {k:IntKind} {n:Int} (h:VR ρ (.int k n) u):u= .int k n:=h
theorem IG {b:Bool} (h:VR ρ (.bool b) u):u= .bool b:=h
theorem MX {b:ByteArray} (h:VR ρ (.string b) u):u= .string b:=h
theorem bD (h:VR ρ (.pointer none) u):u= .pointer none:=h
theorem ZW {h o:Nat} (hh:VR ρ (.pointer (some ⟨h,o,none⟩)) u): ∃p,ρ h=some p∧u= .pointer (some ⟨p.b,p.o+o,none⟩):=hh
theorem m6 {a:Addr} (hh:VR ρ (.pointer (some a)) u): ∃p,ρ a.block=some p∧u= .pointer (some ⟨p.b,p.o+a.off,none⟩)∧a.spot=none:=by
 obtain ⟨b,o,s⟩:=a
 cases s with
 | none=>obtain ⟨p,h1,h2⟩:=hh;exact ⟨p,h1,h2,rfl⟩
 | some s=>exact hh.elim
theorem lG {cs:Array Value} (h:VR ρ (.agg cs) u): ∃ds,u= .agg ds∧EF (CR ρ) cs.toList ds.toList:=h
theorem kV {cs:Array Value} (h:VR ρ (.tuple cs) u): ∃ds,u= .tuple ds∧EF (V2 ρ) cs.toList ds.toList:=h
theorem rL {v:Value} (h:V2 ρ v u):VR ρ v u:=by
 cases v with
 | tuple vs=>exact h.elim
 | _=>exact h
theorem vV {v:Value} (h:CR ρ v u):V2 ρ v u:=by
 cases v with
 | nilFunc=>trivial
 | agg vs=>exact h.elim
 | tuple vs=>exact h.elim
 | _=>exact h
theorem uV {v:Value} (h:CR ρ v u):VR ρ v u:=rL (vV h)
theorem dE {v:Value} (h:CR ρ v u):u.oneCell'=true:=by
 unfold CR at h
 split at h <;> first
  | (obtain ⟨_,_,rfl⟩:=h;rfl)
  | (obtain ⟨_,_,_,_,rfl,_⟩:=h;rfl)
  | (obtain ⟨_,rfl⟩:=h;rfl)
  | (subst h;rfl)
  | exact h.elim
theorem l9 {v:Value} (h:CR ρ v u):u.cells= #[u]∧v.cells= #[v]:=by
 unfold CR at h
 split at h <;> first
  | (obtain ⟨_,_,rfl⟩:=h;exact ⟨rfl,rfl⟩)
  | (obtain ⟨_,_,_,_,rfl,_⟩:=h;exact ⟨rfl,rfl⟩)
  | (obtain ⟨_,rfl⟩:=h;exact ⟨rfl,rfl⟩)
  | (subst h;exact ⟨rfl,rfl⟩)
  | exact h.elim
theorem WG {v:Value} (h:VR ρ v u) (hv:vok v=true):EF (CR ρ) (cellsOf v) u.cells.toList:=by
 cases v with
 | nilFunc=>cases hv
 | tuple vs=>cases hv
 | agg cs=>obtain ⟨ds,rfl,h⟩:=h;exact h
 | _=>
   simp only [VR,V2] at h
   have h':=h
   have hc:=l9 h'
   simp only [cellsOf,hc.1,hc.2]
   exact ⟨h',trivial⟩
end inv
theorem TF {α:Type} {P:Program}: ∀{s:Sem α} {a:α},Q8 P s=some a→ ∀W,s.run P W= .ok a W
 | .pure x,a,h,W=>by simp [Q8] at h;subst h;rfl
 | .program k,a,h,W=>by simp only [Q8] at h;simp only [Sem.run];exact TF h W
theorem nO {ρ:Rho} {v u:Value} (hp:plain v=true) (h:CR ρ v u):u=v:=by
 unfold plain at hp
 split at hp <;> first | exact h | cases hp
theorem NF {ρ:Rho}: ∀{l m:List Value},l.all plain=true→EF (CR ρ) l m→m=l
 | [],[],_,_=>rfl
 | x::xs,y::ys,hp,h=>by
   simp at hp
   rw [nO hp.1 h.1,NF (by simpa using hp.2) h.2]
 | [],_::_,_,h=>h.elim
 | _::_,[],_,h=>h.elim
section equal
variable {P:Program} {t:TypeId}
theorem run_equal_bool (ht:P.underlying t=some .bool) (a b:Bool) (W:World):(Op.equal t (.bool a) (.bool b)).run P W= .ok (a==b) W:=by
 show (Op.equalIn (9999+1) t (.bool a) (.bool b)).run P W=_
 unfold Op.equalIn
 simp [underlying,ht]
theorem OT {e:TypeId} (ht:P.underlying t=some (.pointer e)) (a:Option Addr) (W:World):(Op.equal t (.pointer a) (.pointer none)).run P W= .ok a.isNone W:=by
 show (Op.equalIn (9999+1) t (.pointer a) (.pointer none)).run P W=_
 unfold Op.equalIn
 cases a <;> simp [underlying,ht]
end equal
section reck
variable {P:Program} {op:BinOp} {t:TypeId} {x y:Operand} {a b:Value} {v:Value}
theorem qF {ρ:Rho} {u w:Value} (h:bnI op a b=some v) (ha:VR ρ a u) (hb:VR ρ b w) (W:World):
  (do eqGuard op t x y u w;binOp op t u w:Sem Value).run P W= .ok v W∧VR ρ v v:=by
 unfold bnI at h
 split at h
 ·rename_i k p k' q
  rw [J8 ha,J8 hb]
  cases op <;> simp only at h <;> (repeat' (split at h)) <;> simp at h <;> try (subst h)
  all_goals
   (try simp_all)
   refine ⟨?_,by first | (simp [VR,V2,CR];done)⟩
   simp [eqGuard,binOp,Op.intArith,Op.intDiv,Op.intBits,Op.intCmp,Op.shift, *] <;> (try (intro h';omega))
 ·cases h
theorem p9 {ρ:Rho} {u w:Value} (h:bnS op a b=some v) (ha:VR ρ a u) (hb:VR ρ b w) (W:World):
  (do eqGuard op t x y u w;binOp op t u w:Sem Value).run P W= .ok v W∧VR ρ v v:=by
 unfold bnS at h
 split at h
 ·rename_i p q
  rw [MX ha,MX hb]
  cases op <;> simp only at h <;> (repeat' (split at h)) <;> simp at h <;> try (subst h)
  all_goals
   refine ⟨?_,by first | (simp [VR,V2,CR];done)⟩
   simp [eqGuard,binOp,Op.stringOp] <;> (try (intros;omega)) <;> (try simp_all) <;> (try omega)
 ·cases h
theorem qL {ρ:Rho} {u w:Value} (ht:P.underlying t=some .bool) (h:bnB op a b=some v) (ha:VR ρ a u) (hb:VR ρ b w) (W:World):
  (do eqGuard op t x y u w;binOp op t u w:Sem Value).run P W= .ok v W∧VR ρ v v:=by
 unfold bnB at h
 split at h
 ·rename_i p q
  rw [IG ha,IG hb]
  cases op <;> simp only at h <;> simp at h <;> try (subst h)
  all_goals
   refine ⟨?_,by first | (simp [VR,V2,CR];done)⟩
   simp [eqGuard,binOp,run_equal_bool ht]
 ·cases h
theorem qB {ρ:Rho} {u w:Value} {e:TypeId} (ht:P.underlying t=some (.pointer e)) (h:bnP op a b=some v) (ha:VR ρ a u) (hb:VR ρ b w) (W:World):
  (do eqGuard op t x y u w;binOp op t u w:Sem Value).run P W= .ok v W∧VR ρ v v:=by
 unfold bnP at h
 split at h
 ·rename_i p
  rw [bD hb]
  cases p with
  | none=>
    rw [bD ha]
    cases op <;> simp only at h <;> simp at h <;> try (subst h)
    all_goals
     refine ⟨?_,by first | (simp [VR,V2,CR];done)⟩
     simp [eqGuard,binOp,OT ht]
  | some p=>
    obtain ⟨q,_,rfl,_⟩:=m6 ha
    cases op <;> simp only at h <;> simp at h <;> try (subst h)
    all_goals
     refine ⟨?_,by first | (simp [VR,V2,CR];done)⟩
     simp [eqGuard,binOp,OT ht]
 ·cases h
end reck
end Go.Proofs.Ytklmcfpgdfibnaa.Eng
namespace Go.Proofs.Ytklmcfpgdfibnaa.Eng
open Go Go.RowKit
set_option linter.unusedVariables false
set_option linter.unusedSimpArgs false
section
variable {P:Program} {ρ:Rho} {env:Env} {a:Act}
theorem PZ {s:Sem Value} {u:Value} {W W':World} (h:s.run P W= .ok u W'):((do pure (Next.value (←s))):Sem Next).run P W= .ok (.value u) W':=by
 simp [h]
theorem IY {t:TypeId} {sz:Nat} (h:szT P t=some sz): ∃i,P.info? t=some i∧i.size=sz:=by
 unfold szT at h
 cases hi:P.info? t with
 | none=>simp [hi] at h
 | some i=>simp [hi] at h;exact ⟨i,rfl,h⟩
theorem qP {op:BinOp} {t:TypeId} {x y:Operand} {p q v u w:Value} (h:bnA P op t p q=some v) (ha:VR ρ p u) (hb:VR ρ q w) (W:World):
  (do eqGuard op t x y u w;binOp op t u w:Sem Value).run P W= .ok v W∧VR ρ v v:=by
 unfold bnA at h
 split at h
 ·rename_i xs ys
  split at h
  ·rename_i hp
   split at h
   ·rename_i b hb'
    simp only [Bool.and_eq_true] at hp
    obtain ⟨ds,rfl,hd⟩:=lG ha
    obtain ⟨es,rfl,he⟩:=lG hb
    have e1:=NF (by simpa [Array.all_toList] using hp.1) hd
    have e2:=NF (by simpa [Array.all_toList] using hp.2) he
    have e1':ds=xs:=by cases ds;cases xs;simp_all
    have e2':es=ys:=by cases es;cases ys;simp_all
    subst e1';subst e2'
    cases h
    exact ⟨TF hb' W,rfl⟩
   ·cases h
  ·cases h
 ·cases h
theorem sT {op:UnOp} {p v u:Value} (h:un op p=some v) (hu:VR ρ p u) (W:World):(Op.unary op u).run P W= .ok v W∧VR ρ v v:=by
 unfold un at h
 split at h
 ·rw [IG hu];cases op <;> simp at h;subst h;exact ⟨rfl,rfl⟩
 ·rename_i k n
  rw [J8 hu];cases op <;> simp at h <;> subst h <;> exact ⟨by simp [Op.unary,Op.intArith,Op.intBits],rfl⟩
 ·cases h
theorem uB {c x y v uc ux uy:Value} (h:pk c x y=some v) (hc:VR ρ c uc) (hx:VR ρ x ux) (hy:VR ρ y uy):
  ∃u,VR ρ v u∧ ∀W,((do pure (Next.value (if ←asBool uc then ux else uy))):Sem Next).run P W= .ok (.value u) W:=by
 unfold pk at h
 split at h
 ·cases h;rw [IG hc];exact ⟨ux,hx,fun _=>rfl⟩
 ·cases h;rw [IG hc];exact ⟨uy,hy,fun _=>rfl⟩
 ·cases h
theorem s7 {x v u:Value} {i:Nat} (h:ex x i=some v) (hx:VR ρ x u): ∃w,VR ρ v w∧ ∀W,(Instr.extract u i).run P W= .ok w W:=by
 unfold ex at h
 split at h
 ·rename_i vs
  obtain ⟨ds,rfl,hd⟩:=kV hx
  have h':vs.toList[i]? =some v:=by simpa using h
  obtain ⟨w,hw,hr⟩:=IL i v hd h'
  have hw':ds[i]? =some w:=by simpa using hw
  exact ⟨w,rL hr,fun W=>by simp [Instr.extract,hw']⟩
 ·cases h
theorem o7 {ty t:TypeId} {x v u:Value} (ht:P.underlying t=some .string) (h:lnS x=some v) (hx:VR ρ x u) (W:World):(Builtin.len_ #[t] ty #[u]).run P W= .ok v W∧VR ρ v v:=by
 unfold lnS at h
 split at h
 ·cases h;rw [MX hx];exact ⟨by simp [Builtin.len_,underlying,ht,goInt],rfl⟩
 ·cases h
theorem qI {ty t e:TypeId} {x v u:Value} (ht:P.underlying t=some (.slice e)) (h:lnL x=some v) (hx:VR ρ x u) (W:World):(Builtin.len_ #[t] ty #[u]).run P W= .ok v W∧VR ρ v v:=by
 unfold lnL at h
 split at h
 ·rename_i p n c
  cases h
  have: ∃b c',u= .slice b n c':=by
   rcases p with _ | ⟨b,o,_ | s⟩
   ·obtain ⟨rfl,rfl⟩:=hx;exact ⟨none,0,rfl⟩
   ·obtain ⟨p,b,c',_,rfl,_⟩:=hx;exact ⟨b,c',rfl⟩
   ·exact hx.elim
  obtain ⟨b,c',rfl⟩:=this
  exact ⟨by simp [Builtin.len_,underlying,ht,goInt],rfl⟩
 ·cases h
theorem uJ {ty:TypeId} {ts:Array TypeId} {x y v u w:Value} (h:mn x y=some v) (hx:VR ρ x u) (hy:VR ρ y w) (W:World):(Builtin.min_ ts ty #[u,w]).run P W= .ok v W∧VR ρ v v:=by
 unfold mn at h
 split at h
 ·cases h;rw [J8 hx,J8 hy];exact ⟨by simp [Builtin.min_,Builtin.min2],rfl⟩
 ·cases h
theorem sC {t:TypeId} {fields:Array Field} {f:Field} {i sz:Nat} {x v u:Value} (ht:P.underlying t=some (.struct fields)) (hf:fields[i]? =some f) (hs:szT P f.type=some sz) (hz: ¬sz=0)
  (h:fa f.offset x=some v) (hx:VR ρ x u): ∃w,VR ρ v w∧ ∀W,(Instr.fieldAt t u i).run P W= .ok w W:=by
 obtain ⟨ti,hti,hsz⟩:=IY hs
 unfold fa at h
 split at h
 ·rename_i b o
  cases h
  obtain ⟨p,hp,rfl⟩:=ZW hx
  refine ⟨.pointer (some ⟨p.b,p.o+o+f.offset,none⟩),⟨p,hp,by rw [Nat.add_assoc]⟩, ?_⟩
  have hz': ¬ti.size=0:=by omega
  intro W
  simp [Instr.fieldAt,underlying,ht,hf,Instr.sureAddr,fieldPlace,sizeOf,typeInfo,hti,hz',Addr.add_lit]
 ·cases h
theorem sK {t e:TypeId} {sz:Nat} {x i v u w:Value} (ht:P.underlying t=some (.slice e)) (hs:szT P e=some sz) (h:ia sz x i=some v) (hx:VR ρ x u) (hi:VR ρ i w):
  ∃z,VR ρ v z∧ ∀W,(Instr.indexAt t u w).run P W= .ok z W:=by
 obtain ⟨ti,hti,hsz⟩:=IY hs
 unfold ia at h
 split at h
 ·rename_i b o n c k j
  split at h
  ·rename_i hj
   cases h
   rw [J8 hi]
   obtain ⟨p,ad,c',hp,rfl,_,ha,_⟩:=hx
   obtain rfl:=ha (by omega)
   refine ⟨.pointer (some ⟨p.b,p.o+o+j.toNat*sz,none⟩),⟨p,hp,by rw [Nat.add_assoc]⟩, ?_⟩
   intro W
   simp [Instr.indexAt,asIntOf,underlying,ht,sizeOf,typeInfo,hti,hsz,hj,Addr.add_lit]
  ·cases h
 ·cases h
theorem oL {t e:TypeId} {n sz:Nat} {x i v u w:Value} (ht:P.underlying t=some (.array n e)) (hs:szT P e=some sz) (h:iaA n sz x i=some v) (hx:VR ρ x u) (hi:VR ρ i w):
  ∃z,VR ρ v z∧ ∀W,(Instr.indexAt t u w).run P W= .ok z W:=by
 obtain ⟨ti,hti,hsz⟩:=IY hs
 unfold iaA at h
 split at h
 ·rename_i b o k j
  split at h
  ·rename_i hj
   cases h
   rw [J8 hi]
   obtain ⟨p,hp,rfl⟩:=ZW hx
   refine ⟨.pointer (some ⟨p.b,p.o+o+j.toNat*sz,none⟩),⟨p,hp,by rw [Nat.add_assoc]⟩, ?_⟩
   intro W
   simp [Instr.indexAt,asIntOf,underlying,ht,sizeOf,typeInfo,hti,hsz,hj,Addr.add_lit,Instr.sureAddr]
  ·cases h
 ·cases h
theorem tQ {t:TypeId} {x i v u w:Value} (ht:P.underlying t=some .string) (h:ix x i=some v) (hx:VR ρ x u) (hi:VR ρ i w) (W:World):
  (Instr.index t u w).run P W= .ok v W∧VR ρ v v:=by
 unfold ix at h
 split at h
 ·rename_i s k j
  split at h
  ·rename_i hj
   rw [J8 hi,MX hx]
   simp only [Option.map_eq_some_iff] at h
   obtain ⟨b,hb,rfl⟩:=h
   exact ⟨by simp [Instr.index,asIntOf,underlying,ht,hj,hb],rfl⟩
  ·cases h
 ·cases h
theorem run_sliceBound {x:Operand} {d n y:Nat} {code:BoundsCode} (hE:VRE ρ env a) (h:bnd d (some (ev env x))=some n) (hy:n≤y) (W:World):
  (Instr.sliceBound (a.eval x) y code).run P W= .ok n W:=by
 have hv:=C3 hE x
 unfold bnd at h
 split at h
 ·simp_all
 ·rename_i k i he
  split at h
  ·rename_i hi
   cases h
   rw [Option.some.inj he] at hv
   rw [J8 hv]
   have:i≤(y:Int):=by omega
   simp [Instr.sliceBound,asIntOf,hi,this]
  ·cases h
 ·cases h
theorem KB {b:Bool} {len cap l h:Nat} {lo hi:Option Operand} (hE:VRE ρ env a) (h1:bnd len (hi.map (ev env))=some h) (h2:bnd 0 (lo.map (ev env))=some l) (hlh:l≤h) (hh:h≤cap) (W:World):
  (Instr.sliceBounds b len cap (lo.map a.eval) (hi.map a.eval) none).run P W= .ok (l,h,cap) W:=by
 cases lo with
 | none=>
   simp only [Option.map_none,bnd,Option.some.injEq] at h2
   subst h2
   cases hi with
   | none=>simp only [Option.map_none,bnd,Option.some.injEq] at h1;subst h1;simp [Instr.sliceBounds]
   | some y=>simp only [Option.map_some] at h1;simp [Instr.sliceBounds,run_sliceBound (P:=P) hE h1 hh]
 | some x=>
   simp only [Option.map_some] at h2
   cases hi with
   | none=>
     simp only [Option.map_none,bnd,Option.some.injEq] at h1
     subst h1
     simp [Instr.sliceBounds,run_sliceBound (P:=P) hE h2 hlh]
   | some y=>simp only [Option.map_some] at h1;simp [Instr.sliceBounds,run_sliceBound (P:=P) hE h1 hh,run_sliceBound (P:=P) hE h2 hlh]
theorem QL {α β γ:Type} {x:Option α} {y:Option β} {f:α→β→Option γ} {c:γ} (h:(x.bind fun p=>y.bind fun q=>f p q)=some c): ∃p q,x=some p∧y=some q∧f p q=some c:=by
 cases x with
 | none=>cases h
 | some p=>
   cases y with
   | none=>cases h
   | some q=>exact ⟨p,q,rfl,rfl,h⟩
theorem p5 {t:TypeId} {x v u:Value} {lo hi:Option Operand} (hE:VRE ρ env a) (ht:P.underlying t=some .string) (h:scS x (lo.map (ev env)) (hi.map (ev env))=some v) (hx:VR ρ x u) (W:World):
  (Instr.sliceAt t u (lo.map a.eval) (hi.map a.eval) none).run P W= .ok v W∧VR ρ v v:=by
 unfold scS at h
 split at h
 ·rename_i s
  obtain ⟨n,l,h1,h2,h3⟩:=QL h
  split at h3
  ·rename_i hc
   cases h3
   rw [MX hx]
   exact ⟨by simp [Instr.sliceAt,Instr.slice,underlying,ht,KB (P:=P) hE h1 h2 hc.1 hc.2],rfl⟩
  ·cases h3
 ·cases h
theorem pM {t e:TypeId} {sz:Nat} {x v u:Value} {lo hi:Option Operand} (hE:VRE ρ env a) (ht:P.underlying t=some (.slice e)) (hs:szT P e=some sz)
  (h:scL sz x (lo.map (ev env)) (hi.map (ev env))=some v) (hx:VR ρ x u):
  ∃z,VR ρ v z∧ ∀W,(Instr.sliceAt t u (lo.map a.eval) (hi.map a.eval) none).run P W= .ok z W:=by
 obtain ⟨ti,hti,hsz⟩:=IY hs
 unfold scL at h
 split at h
 ·rename_i b o n e'
  obtain ⟨hh,l,h1,h2,h3⟩:=QL h
  split at h3
  ·rename_i hc
   cases h3
   obtain ⟨p,ad,c',hp,rfl,hcap,ha,hown⟩:=hx
   refine ⟨_, ?_,fun W=>by simp only [Instr.sliceAt,Instr.slice,Sem.run_bind,underlying,run_program,Result.andThen_ok,ht,Sem.run_pure,KB (P:=P) hE h1 h2 hc.1 (Nat.le_trans hc.2.1 hcap),sizeOf,typeInfo,hti,hsz];rfl⟩
   refine ⟨p,_,_,hp,rfl,by omega,fun hne=> ?_,fun ho=> ?_⟩
   ·have:n≠0:=by omega
    obtain rfl:=ha this
    split
    ·omega
    ·simp [Addr.add_lit,Nat.add_assoc]
   ·obtain ⟨q2,o',rfl,q3,q4⟩:=hown ho
    have e0:e'=sz:=hc.2.2
    subst e0
    have hl:l≤c':=by omega
    refine ⟨?_, ?_⟩
    ·rw [←q2,Nat.sub_mul]
     have:=Nat.mul_le_mul_right e' hl
     omega
    ·split
     ·rename_i hcl
      exact ⟨o',rfl,q3,fun hne=>absurd (by omega) hne⟩
     ·rename_i hcl
      have hc0:c'≠0:=by omega
      obtain rfl:=q4 hc0
      refine ⟨p.o+(o+l*e'),by simp [Addr.add_lit,Nat.add_assoc], ?_,fun _=>rfl⟩
      have:=Nat.mul_le_mul_right e' hl
      omega
  ·cases h3
 ·rename_i n e'
  obtain ⟨hh,l,h1,h2,h3⟩:=QL h
  split at h3
  ·rename_i hc
   cases h3
   obtain ⟨rfl,rfl⟩:=hx
   obtain ⟨rfl,rfl⟩:=hc
   exact ⟨.slice none 0 0,⟨rfl,rfl⟩,fun W=>by simp only [Instr.sliceAt,Instr.slice,Sem.run_bind,underlying,run_program,Result.andThen_ok,ht,Sem.run_pure,KB (P:=P) hE h1 h2 (Nat.le_refl _) (Nat.le_refl _),sizeOf,typeInfo,hti,hsz];rfl⟩
  ·cases h3
 ·cases h
end
end Go.Proofs.Ytklmcfpgdfibnaa.Eng
namespace Go.Proofs.Ytklmcfpgdfibnaa.Eng
open Go Go.RowKit
set_option linter.unusedVariables false
set_option linter.unusedSimpArgs false
theorem FY (l:List Value) (off:Nat) (xs:List Value) (h:off+xs.length≤l.length):(CC l off xs).length=l.length:=by
 simp [CC];omega
theorem G9 (l:List Value) (off:Nat) (xs:List Value) (h:off+xs.length≤l.length) (i:Nat):(CC l off xs)[i]? =if off≤i∧i<off+xs.length then xs[i-off]? else l[i]? :=by
 unfold CC
 have hl:(l.take off).length=off:=by simp;omega
 by_cases h1:i<off
 ·rw [List.append_assoc,List.getElem?_append_left (by omega),List.getElem?_take_of_lt h1,if_neg (by omega)]
 ·by_cases h2:i<off+xs.length
  ·rw [List.append_assoc,List.getElem?_append_right (by omega),hl,List.getElem?_append_left (by omega),if_pos (by omega)]
  ·rw [List.getElem?_append_right (by simp;omega),List.getElem?_drop,if_neg (by omega)]
   congr 1
   simp;omega
theorem XF (f:Array Value→Value×Nat→Array Value) (off:Nat) (hf: ∀A c j,f A (c,j)=A.setIfInBounds (off+j) c): ∀(l:List Value) (k:Nat) (A:Array Value),off+k+l.length≤A.size→
  ((l.zipIdx k).foldl f A).toList=CC A.toList (off+k) l
 | [],k,A,h=>by simp [CC]
 | x::xs,k,A,h=>by
   simp only [List.length_cons] at h
   rw [List.zipIdx_cons,List.foldl_cons,hf,XF f off hf xs (k+1) _ (by simp;omega)]
   apply List.ext_getElem?
   intro i
   rw [G9 _ _ _ (by simp;omega),G9 _ _ _ (by simp;omega)]
   simp only [Array.toList_setIfInBounds,List.getElem?_set,List.length_cons,Array.length_toList]
   by_cases h1:i=off+k
   ·subst h1
    have:off+k<A.size:=by omega
    simp [this]
    omega
   ·by_cases h2:off+(k+1)≤i∧i<off+(k+1)+xs.length
    ·have h3:off+k≤i∧i<off+k+(xs.length+1):=by omega
     rw [if_pos h2,if_pos h3]
     have h4:i-(off+k)=(i-(off+(k+1)))+1:=by omega
     rw [h4,List.getElem?_cons_succ]
    ·have h3: ¬(off+k≤i∧i<off+k+(xs.length+1)):=by omega
     rw [if_neg h2,if_neg h3,if_neg (by omega)]
theorem dU (v:Value) (off:Nat) (A:Array Value) (h:off+v.cells.size≤A.size):
  (v.cells.zipIdx.foldl (fun cs (c,j)=>cs.setIfInBounds (off+j) c) A).toList=CC A.toList off v.cells.toList:=by
 rw [←Array.foldl_toList,Array.toList_zipIdx]
 have:=XF (fun cs (x:Value×Nat)=>cs.setIfInBounds (off+x.2) x.1) off (fun A c j=>rfl) v.cells.toList 0 A (by simpa using h)
 simpa using this
theorem bR {R:Value→Value→Prop} {l m xs ys:List Value} (off:Nat) (h:EF R l m) (k:EF R xs ys):EF R (CC l off xs) (CC m off ys):=by
 unfold CC
 rw [CZ k]
 exact HB (HB (XR _ h) k) (XV _ h)
def YN (ρ:Rho) (place:Nat→Option (Nat×Nat)):List (Nat×Nat×Value)→List (Nat×Value)→Prop
 | [],[]=>True
 | (off,sz,v)::r,(i,u)::r'=>place i=some (off,sz)∧VR ρ v u∧YN ρ place r r'
 | _,_=>False
theorem RN {ρ:Rho} {place:Nat→Option (Nat×Nat)}: ∀(ps:List (Nat×Nat×Value)) (us:List (Nat×Value)) (cs cs':List Value) (A:Array Value),
  YN ρ place ps us→EF (CR ρ) cs A.toList→LS cs ps=some cs'→ ∃B,Instr.fill place A us=some B∧EF (CR ρ) cs' B.toList
 | [],[],cs,cs',A,_,hc,h=>by simp [LS] at h;subst h;exact ⟨A,rfl,hc⟩
 | (off,sz,v)::r,(i,u)::r',cs,cs',A,hp,hc,h=>by
   obtain ⟨h1,h2,h3⟩:=hp
   simp only [LS] at h
   split at h
   ·rename_i hv
    simp only [Bool.and_eq_true,beq_iff_eq,decide_eq_true_eq] at hv
    have hcl:=WG h2 hv.1.1
    have hl:=CZ hcl
    have hla:=CZ hc
    simp only [Array.length_toList] at hl hla
    have hs:u.cells.size=sz:=by rw [←hl];exact hv.1.2
    have hb:off+u.cells.size≤A.size:=by rw [hs, ←hla];exact hv.2
    have hk:=dU u off A hb
    obtain ⟨B,hB,hr⟩:=RN r r' (CC cs off (cellsOf v)) cs' (u.cells.zipIdx.foldl (fun cs (c,j)=>cs.setIfInBounds (off+j) c) A) h3 (by rw [hk];exact bR off hc hcl) h
    refine ⟨B, ?_,hr⟩
    simp only [Instr.fill,h1]
    rw [if_neg (by simp;omega)]
    exact hB
   ·cases h
 | [],_::_,_,_,_,h,_,_=>h.elim
 | _::_,[],_,_,_,h,_,_=>h.elim
section
variable {P:Program} {ρ:Rho} {env:Env} {a:Act}
theorem WC {ρ:Rho}: ∀{l:List Value},l.all I1=true→EF (CR ρ) l l
 | [],_=>trivial
 | x::xs,h=>by simp at h;exact ⟨X4 h.1,WC (by simpa using h.2)⟩
theorem JF {t:TypeId} {z:List Value} {sz by':Nat} (h:IC P t=some (z,sz,by')): ∃i v,P.info? t=some i∧i.zero=some v∧v.cells.toList=z∧i.size=sz∧i.bytes=by'∧z.length=sz∧ ∀ρ,EF (CR ρ) z z:=by
 unfold IC at h
 cases hi:P.info? t with
 | none=>simp [hi] at h
 | some i=>
   cases hz:i.zero with
   | none=>simp [hi,hz] at h
   | some v=>
     simp only [hi,Option.bind_some,hz] at h
     split at h
     ·rename_i hc
      simp only [Bool.and_eq_true,beq_iff_eq] at hc
      simp only [Option.some.injEq,Prod.mk.injEq] at h
      obtain ⟨rfl,rfl,rfl⟩:=h
      exact ⟨i,v,rfl,hz,rfl,rfl,rfl,hc.1,fun ρ=>WC hc.2⟩
     ·cases h
theorem PX {α β:Type} {f:α→Sem β} {g:α→β} (W:World): ∀(l:List α),(∀x∈l,(f x).run P W= .ok (g x) W)→(l.mapM f).run P W= .ok (l.map g) W
 | [],_=>by simp
 | x::xs,h=>by
   rw [List.mapM_cons]
   simp [h x (by simp),PX W xs fun y hy=>h y (by simp [hy])]
theorem UU {α β:Type} {f:α→Sem β} {g:α→β} (W:World) (l:Array α) (h: ∀x∈l,(f x).run P W= .ok (g x) W):(l.mapM f).run P W= .ok (l.map g) W:=by
 rw [Array.mapM_eq_mapM_toList,Sem.run_map,PX W l.toList fun x hx=>h x (by simpa using hx)]
 simp only [Result.andThen_ok]
 congr 1
 apply Array.toList_inj.1
 simp
theorem WH (hE:VRE ρ env a) {fields:Array Field}: ∀{l:List (Nat×Operand)} {ps:List (Nat×Nat×Value)},HT P env fields l=some ps→
  YN ρ (fun i=>(fields.map fun f=>(f.offset,P.cellsOf f.type))[i]?) ps (l.map fun (i,x)=>(i,a.eval x))
 | [],ps,h=>by simp [HT] at h;subst h;trivial
 | (i,x)::r,ps,h=>by
   simp only [HT] at h
   cases hf:fields[i]? with
   | none=>simp [hf] at h
   | some f=>
     cases hs:szT P f.type with
     | none=>simp [hf,hs] at h
     | some sz=>
       cases hr:HT P env fields r with
       | none=>simp [hf,hs,hr] at h
       | some l=>
         simp only [hf,Option.bind_some,hs,hr,Option.map_some,Option.some.injEq] at h
         subst h
         obtain ⟨i',hi',hsz⟩:=IY hs
         refine ⟨by simp [hf,Program.cellsOf,hi',hsz],C3 hE x, ?_⟩
         exact WH hE hr
theorem QR (hE:VRE ρ env a) (sz:Nat): ∀(l:List (Nat×Operand)),YN ρ (fun i=>some (i*sz,sz)) (F7 env sz l) (l.map fun (i,x)=>(i,a.eval x))
 | []=>trivial
 | (i,x)::r=>⟨rfl,C3 hE x,QR hE sz r⟩
theorem dO {t:TypeId} {z:List Value} {sz by':Nat} {fields:Array Field} {parts:Array (Nat×Operand)} {ps:List (Nat×Nat×Value)} {v:Value} (hE:VRE ρ env a) (hz:IC P t=some (z,sz,by'))
  (ht:P.underlying t=some (.struct fields)) (hf:V1 P fields=true) (hp:HT P env fields parts.toList=some ps) (h:bd z ps=some v):
  ∃u,VR ρ v u∧ ∀W,(Instr.build t (parts.map fun (i,x)=>(i,a.eval x))).run P W= .ok u W:=by
 obtain ⟨i,zv,hi,hzv,hzc,hsz,_,hlen,hself⟩:=JF hz
 simp only [bd,Option.map_eq_some_iff] at h
 obtain ⟨cs,hcs,rfl⟩:=h
 obtain ⟨B,hB,hr⟩:=RN (ρ:=ρ) ps _ z cs zv.cells (WH hE hp) (by rw [hzc];exact hself ρ) hcs
 have hm:=fun W=>UU (P:=P) (f:=fun f:Field=>do pure (f.offset, ←sizeOf f.type)) (g:=fun f=>(f.offset,P.cellsOf f.type)) W fields (fun f hfm=>by
  have:=(Array.all_eq_true_iff_forall_mem.1 hf) f hfm
  obtain ⟨s,hs⟩:=Option.isSome_iff_exists.1 this
  obtain ⟨j,hj,hjs⟩:=IY hs
  simp [sizeOf,typeInfo,hj,Program.cellsOf])
 refine ⟨.agg B,⟨B,rfl,by simpa using hr⟩, ?_⟩
 intro W
 simp only [Instr.build,zeroValue,typeInfo,underlying,Sem.run_bind,run_program,Result.andThen_ok,hi,Sem.run_pure,hzv,ht,hm,Array.toList_map,hB]
theorem eJ {t e:TypeId} {z:List Value} {n sz sz' by':Nat} {parts:Array (Nat×Operand)} {v:Value} (hE:VRE ρ env a) (hz:IC P t=some (z,sz,by'))
  (ht:P.underlying t=some (.array n e)) (hs:szT P e=some sz') (h:bd z (F7 env sz' parts.toList)=some v):
  ∃u,VR ρ v u∧ ∀W,(Instr.build t (parts.map fun (i,x)=>(i,a.eval x))).run P W= .ok u W:=by
 obtain ⟨i,zv,hi,hzv,hzc,hsz,_,hlen,hself⟩:=JF hz
 obtain ⟨j,hj,hjs⟩:=IY hs
 simp only [bd,Option.map_eq_some_iff] at h
 obtain ⟨cs,hcs,rfl⟩:=h
 obtain ⟨B,hB,hr⟩:=RN (ρ:=ρ) _ _ z cs zv.cells (QR hE sz' parts.toList) (by rw [hzc];exact hself ρ) hcs
 refine ⟨.agg B,⟨B,rfl,by simpa using hr⟩, ?_⟩
 intro W
 simp only [Instr.build,zeroValue,sizeOf,typeInfo,underlying,Sem.run_bind,run_program,Result.andThen_ok,hi,hj,hjs,Sem.run_pure,hzv,ht,Array.toList_map,hB]
def Yld (P:Program) (ρ:Rho) (a:Act) (o:Oper) (v:Value):Prop:= ∃u,VR ρ v u∧ ∀W,(execOp a.eval o).run P W= .ok (.value u) W
theorem XH {o:Oper} {v:Value} (hE:VRE ρ env a) (h:BC P env o=some (.val v)):Yld P ρ a o v:=by
 obtain ⟨dst,op,type,pos,after,guard⟩:=o
 cases op
 case move x=>simp only [BC,Option.some.injEq,Stp.val.injEq] at h;subst h;exact ⟨_,C3 hE x,fun W=>rfl⟩
 case assign x=>simp only [BC,Option.some.injEq,Stp.val.injEq] at h;subst h;exact ⟨_,C3 hE x,fun W=>rfl⟩
 case slice t x lo hi mx=>cases mx <;> simp only [BC] at h <;> (repeat' (split at h)) <;> simp [Option.map_eq_some_iff] at h
 all_goals (simp only [BC] at h;(repeat' (split at h)) <;> simp [Option.bind_eq_some_iff,Option.map_eq_some_iff] at h <;> (try (obtain ⟨_,_,h⟩:=h;(repeat' (split at h)) <;> simp at h)))
theorem GL {o:Oper} {s:Sem Value} {v:Value} (he:execOp a.eval o=(do pure (Next.value (←s)))) (h: ∃u,VR ρ v u∧ ∀W,s.run P W= .ok u W):Yld P ρ a o v:=by
 obtain ⟨u,hv,hr⟩:=h
 exact ⟨u,hv,fun W=>by rw [he];exact PZ (hr W)⟩
theorem LF {s:Sem Value} {v:Value} (h: ∀W,s.run P W= .ok v W∧VR ρ v v): ∃u,VR ρ v u∧ ∀W,s.run P W= .ok u W:=⟨v,(h default).2,fun W=>(h W).1⟩
theorem UW {o:Oper} {r:Option Value} {v:Value} (hE:VRE ρ env a) (h:BC P env o=some (.pure r)) (hr:r=some v):Yld P ρ a o v:=by
 obtain ⟨dst,op,type,pos,after,guard⟩:=o
 cases op
 case pick c x y=>
  simp only [BC,Option.some.injEq,Stp.pure.injEq] at h;subst h
  exact uB hr (C3 hE c) (C3 hE x) (C3 hE y)
 case build t parts=>
  simp only [BC] at h
  cases hz:IC P t with
  | none=>simp [hz] at h
  | some z=>
    obtain ⟨z,sz,b⟩:=z
    simp only [hz,Option.bind_some] at h
    split at h
    ·rename_i fields ht
     split at h
     ·rename_i hf
      simp only [Option.map_eq_some_iff,Stp.pure.injEq] at h
      obtain ⟨ps,hps,rfl⟩:=h
      exact GL rfl (dO hE hz ht hf hps hr)
     ·cases h
    ·rename_i n e ht
     simp only [Option.map_eq_some_iff,Stp.pure.injEq] at h
     obtain ⟨s,hs,rfl⟩:=h
     exact GL rfl (eJ hE hz ht hs hr)
    ·cases h
 case nilCheck x=>
  simp only [BC,Option.some.injEq,Stp.pure.injEq] at h;subst h
  have hx:=C3 hE x
  unfold nc at hr
  split at hr
  ·rename_i p he
   cases hr
   rw [he] at hx
   obtain ⟨q,hq,hu,_⟩:=m6 hx
   exact ⟨_,hx,fun W=>by simp [execOp,hu]⟩
  ·cases hr
 case binOp op t x y yt=>
  simp only [BC] at h
  split at h <;> (try cases h) <;> rename_i ht
  ·exact GL rfl (LF fun W=>qF hr (C3 hE x) (C3 hE y) W)
  ·exact GL rfl (LF fun W=>p9 hr (C3 hE x) (C3 hE y) W)
  ·exact GL rfl (LF fun W=>qL ht hr (C3 hE x) (C3 hE y) W)
  ·exact GL rfl (LF fun W=>qB ht hr (C3 hE x) (C3 hE y) W)
  ·exact GL rfl (LF fun W=>qP hr (C3 hE x) (C3 hE y) W)
 case unOp op t x=>
  simp only [BC,Option.some.injEq,Stp.pure.injEq] at h;subst h
  exact GL rfl (LF fun W=>sT hr (C3 hE x) W)
 case convert src dst' x=>
  simp only [BC] at h
  split at h
  ·rename_i k1 k h1 h2
   cases h
   have hx:=C3 hE x
   unfold cvI at hr
   split at hr
   ·rename_i k' n he
    cases hr
    rw [he] at hx
    refine GL rfl ⟨_,(rfl:VR ρ (.int k (k.wrap n)) _),fun W=> ?_⟩
    show (convert src dst' (a.eval x)).run P W=_
    rw [J8 hx]
    simp [convert,underlying,h1,h2,Conv.intToInt]
   ·cases hr
  ·split at h <;> cases h
  ·cases h
 case slice t x lo hi mx=>
  cases mx with
  | some m=>simp [BC] at h
  | none=>
    simp only [BC] at h
    split at h
    ·rename_i ht
     cases h
     exact GL rfl (LF fun W=>p5 hE ht hr (C3 hE x) W)
    ·rename_i e ht
     simp only [Option.map_eq_some_iff,Stp.pure.injEq] at h
     obtain ⟨s,hs,rfl⟩:=h
     exact GL rfl (pM hE ht hs hr (C3 hE x))
    ·cases h
 case fieldAddr t x i=>
  simp only [BC] at h
  split at h
  ·rename_i fields ht
   simp only [Option.bind_eq_some_iff] at h
   obtain ⟨f,hf,sz,hs,h⟩:=h
   split at h
   ·cases h
   ·rename_i hz
    cases h
    exact GL rfl (sC ht hf hs hz hr (C3 hE x))
  ·cases h
 case indexAddr t x i=>
  simp only [BC] at h
  split at h
  ·rename_i e ht
   simp only [Option.map_eq_some_iff,Stp.pure.injEq] at h
   obtain ⟨s,hs,rfl⟩:=h
   exact GL rfl (sK ht hs hr (C3 hE x) (C3 hE i))
  ·rename_i n e ht
   simp only [Option.map_eq_some_iff,Stp.pure.injEq] at h
   obtain ⟨s,hs,rfl⟩:=h
   exact GL rfl (oL ht hs hr (C3 hE x) (C3 hE i))
  ·cases h
 case index t x i=>
  simp only [BC] at h
  split at h
  ·rename_i ht
   cases h
   exact GL rfl (LF fun W=>tQ ht hr (C3 hE x) (C3 hE i) W)
  ·cases h
 case extract x i=>
  simp only [BC,Option.some.injEq,Stp.pure.injEq] at h;subst h
  exact GL rfl (s7 hr (C3 hE x))
 case call c=>
  obtain ⟨callee,args,argTypes⟩:=c
  simp only [BC] at h
  split at h
  ·split at h
   ·split at h <;> cases h
   ·cases h
  ·split at h
   ·rename_i t x hts has
    have e1:argTypes= #[t]:=by cases argTypes;simp_all
    have e2:args= #[x]:=by cases args;simp_all
    subst e1;subst e2
    split at h <;> (try cases h) <;> rename_i ht
    ·exact GL (s:=Builtin.len_ #[t] type #[a.eval x]) (by simp [execOp,resolve,invoke,builtin]) (LF fun W=>o7 ht hr (C3 hE x) W)
    ·exact GL (s:=Builtin.len_ #[t] type #[a.eval x]) (by simp [execOp,resolve,invoke,builtin]) (LF fun W=>qI ht hr (C3 hE x) W)
   ·cases h
  ·split at h
   ·rename_i x y has
    cases h
    have e2:args= #[x,y]:=by cases args;simp_all
    subst e2
    exact GL (s:=Builtin.min_ argTypes type #[a.eval x,a.eval y]) (by simp [execOp,resolve,invoke,builtin]) (LF fun W=>uJ hr (C3 hE x) (C3 hE y) W)
   ·cases h
  ·split at h
   ·split at h
    ·split at h
     ·simp only [Option.bind_eq_some_iff] at h
      obtain ⟨z,_,h⟩:=h
      split at h <;> cases h
     ·cases h
    ·cases h
   ·cases h
  ·cases h
 all_goals (simp only [BC] at h;(repeat' (split at h)) <;> simp [Option.bind_eq_some_iff,Option.map_eq_some_iff] at h <;> (try (obtain ⟨_,_,h⟩:=h;(repeat' (split at h)) <;> simp at h)))
end
end Go.Proofs.Ytklmcfpgdfibnaa.Eng
namespace Go.Proofs.Ytklmcfpgdfibnaa.Eng
open Go Go.RowKit
set_option linter.unusedVariables false
set_option linter.unusedSimpArgs false
theorem Y8 {W W':World} {b o:Nat} (h:W'.heap[b]? =W.heap[b]?):W'.cell? ⟨b,o,none⟩=W.cell? ⟨b,o,none⟩:=by simp [World.cell?,h]
theorem SL {B0:Nat} {ρ ρ':Rho} {W W':World} {p:Pl} {ob:Ob} (h:Con B0 ρ W p ob) (hs:Sub ρ ρ') (hw:W'.heap[p.b]? =W.heap[p.b]? ∨(ob.cells=[]∧p.own=false)):Con B0 ρ' W' p ob:=by
 obtain ⟨h1,h2,h3,h4⟩:=h
 refine ⟨h1,fun i x hx=> ?_,fun ho=> ?_,h4⟩
 ·obtain ⟨u,hu,hc⟩:=h2 i x hx
  rcases hw with hw | ⟨hw,_⟩
  ·exact ⟨u,by rw [Y8 hw];exact hu,LK hs hc⟩
  ·rw [hw] at hx;simp at hx
 ·obtain ⟨hb,cs,e,h5,h6⟩:=h3 ho
  rcases hw with hw | ⟨_,hw⟩
  ·exact ⟨hb,cs,e,by rw [hw];exact h5,h6⟩
  ·rw [hw] at ho;cases ho
theorem W0 {R:Value→Value→Prop} (f:Nat→Option Value): ∀(cs:List Value) (k:Nat),(∀i x,cs[i]? =some x→ ∃u,f (k+i)=some u∧R x u)→ ∃us,EF R cs us∧ ∀j u,us[j]? =some u→f (k+j)=some u
 | [],k,_=>⟨[],trivial,by simp⟩
 | c::cs,k,h=>by
   obtain ⟨u,hu,hr⟩:=h 0 c rfl
   obtain ⟨us,h1,h2⟩:=W0 f cs (k+1) fun i x hx=>by
    obtain ⟨w,hw,hr⟩:=h (i+1) x (by simpa using hx)
    exact ⟨w,by rw [←hw];congr 1;omega,hr⟩
   refine ⟨u::us,⟨hr,h1⟩,fun j w hj=> ?_⟩
   cases j with
   | zero=>simp at hj;subst hj;exact hu
   | succ j=>
     have:=h2 j w (by simpa using hj)
     rw [←this];congr 1;omega
theorem NP {ob:Ob} {off sz:Nat} {cs:List Value} (h:JP ob off sz=some cs):off+sz≤ob.cells.length∧cs=(ob.cells.drop off).take sz∧cs.length=sz∧ ∀i x,cs[i]? =some x→ob.cells[off+i]? =some x:=by
 unfold JP at h
 split at h
 ·rename_i hl
  cases h
  refine ⟨hl,rfl,by simp;omega,fun i x hx=> ?_⟩
  rw [List.getElem?_take] at hx
  split at hx
  ·rwa [List.getElem?_drop] at hx
  ·cases hx
 ·cases h
theorem WE {B0:Nat} {ρ:Rho} {W:World} {p:Pl} {ob:Ob} {off sz:Nat} {cs:List Value} (h:Con B0 ρ W p ob) (hr:JP ob off sz=some cs):
  ∃us,EF (CR ρ) cs us∧us.length=sz∧ ∀j u,us[j]? =some u→W.cell? ((⟨p.b,p.o+off,none⟩:Addr).add j)=some u:=by
 obtain ⟨h1,h2,h3,h4⟩:=NP hr
 obtain ⟨us,k1,k2⟩:=W0 (R:=CR ρ) (fun i=>W.cell? ⟨p.b,p.o+off+i,none⟩) cs 0 fun i x hx=>by
  obtain ⟨u,hu,hc⟩:=h.2.1 (off+i) x (h4 i x hx)
  exact ⟨u,by rw [←hu];congr 2;omega,hc⟩
 refine ⟨us,k1,by rw [←CZ k1];exact h3,fun j u hj=> ?_⟩
 rw [Addr.add_lit]
 simpa using k2 j u hj
def upd (ρ:Rho) (h:Nat) (p:Pl):Rho:=fun k=>if k=h then some p else ρ k
theorem DE (ρ:Rho) (h:Nat) (p:Pl):upd ρ h p h=some p:=by simp [upd]
theorem ET (ρ:Rho) {h k:Nat} (p:Pl) (hk:k≠h):upd ρ h p k=ρ k:=by simp [upd,hk]
section
variable {C:Ctx} {ρ:Rho} {s:St} {W W':World}
theorem T7 (hf:ρ s.n=none) (p:Pl):Sub ρ (upd ρ s.n p):=fun k q hk=>by
 by_cases hh:k=s.n
 ·subst hh;rw [hf] at hk;cases hk
 ·rw [ET _ _ hh];exact hk
theorem Rel.alloc (h:Rel C ρ s W) (hf:ρ s.n=none) {cells:List Value} {cs:Array Value} {e:TypeId} (hW:W'.heap=W.heap.push (.cells cs e)) (hos:W'.os=W.os) (htape:W'.tape=W.tape) (hout:W'.output=W.output)
  (hc: ∀(i:Nat) x,cells[i]? =some x→ ∃u,cs[i]? =some u∧CR ρ x u) (hl:cells.length≤cs.size):
  Rel C (upd ρ s.n ⟨W.heap.size,0,cs.size,true⟩) (s.push ⟨cells,true⟩) W'∧Way ρ s W (upd ρ s.n ⟨W.heap.size,0,cs.size,true⟩) (s.push ⟨cells,true⟩) W':=by
 have hold: ∀k,k<W.heap.size→W'.heap[k]? =W.heap[k]? :=fun k hk=>by rw [hW,Array.getElem?_push,if_neg (by omega)]
 have hnew:W'.heap[W.heap.size]? =some (.cells cs e (0,0)):=by rw [hW];simp
 have hsub:=T7 hf ⟨W.heap.size,0,cs.size,true⟩
 have hbel:Below W.heap.size W W':=⟨hos,htape,hout,by rw [hW];simp,hold⟩
 have hlt: ∀k p ob,ρ k=some p→s.get k=some ob→p.own=true→p.b<W.heap.size:=fun k p ob h1 h2 h3=>by
  obtain ⟨_,cs',e',h5,_⟩:=(h.con k p ob h1 h2).2.2.1 h3
  exact (Array.getElem?_eq_some_iff.1 h5).1
 have hpush: ∀k ob,(s.push ⟨cells,true⟩).get k=some ob→(k=s.n∧ob=⟨cells,true⟩)∨(k≠s.n∧s.get k=some ob):=fun k ob hk=>by
  rw [St.II] at hk
  by_cases hh:k=s.n
  ·rw [if_pos hh] at hk;cases hk;exact .inl ⟨hh,rfl⟩
  ·rw [if_neg hh] at hk;exact .inr ⟨hh,hk⟩
 refine ⟨⟨fun k p ob hk ho=> ?_,fun k k' p p' ob ob' hk hk' ho ho' hp hp' hb=> ?_,h.bel.trans (hbel.mono h.bel.size)⟩,⟨by simp [St.push],hsub,fun k hk=>ET _ _ (by rw [St.G3] at hk;omega),hbel.size,fun k hk _=>hold k hk,fun k hk ⟨x,p,ob,h1,h2,h3,h4⟩=> ?_⟩⟩
 ·rcases hpush k ob ho with ⟨rfl,rfl⟩ | ⟨hh,ho⟩
  ·rw [DE] at hk;cases hk
   refine ⟨rfl,fun i x hx=> ?_,fun _=>⟨h.bel.size,cs,e,hnew,rfl,by simpa using hl⟩,fun hf=>by cases hf⟩
   obtain ⟨u,hu,hr⟩:=hc i x hx
   exact ⟨u,by simp [World.cell?,hnew,hu],LK hsub hr⟩
  ·rw [ET _ _ hh] at hk
   have hcon:=h.con k p ob hk ho
   refine SL hcon hsub ?_
   cases hp:p.own with
   | true=>exact .inl (hold _ (hlt k p ob hk ho hp))
   | false=>
     rcases hcon.2.2.2 hp with hz | hz
     ·exact .inr ⟨hz,rfl⟩
     ·exact .inl (hold _ (Nat.lt_of_lt_of_le hz h.bel.size))
 ·rcases hpush k ob ho with ⟨rfl,rfl⟩ | ⟨hh,ho⟩
  ·rcases hpush k' ob' ho' with ⟨rfl,rfl⟩ | ⟨hh',ho'⟩
   ·rfl
   ·rw [DE] at hk;cases hk
    rw [ET _ _ hh'] at hk'
    have:=hlt k' p' ob' hk' ho' hp'
    simp only at hb;omega
  ·rw [ET _ _ hh] at hk
   rcases hpush k' ob' ho' with ⟨rfl,rfl⟩ | ⟨hh',ho'⟩
   ·rw [DE] at hk';cases hk'
    have:=hlt k p ob hk ho hp
    simp only at hb;omega
   ·rw [ET _ _ hh'] at hk'
    exact h.inj k k' p p' ob ob' hk hk' ho ho' hp hp' hb
 ·rcases hpush x ob h2 with ⟨rfl,rfl⟩ | ⟨hh,h2⟩
  ·rw [DE] at h1;cases h1;simp only at h4;omega
  ·rw [ET _ _ hh] at h1
   exact ⟨x,p,ob,h1,h2,h3,h4⟩
theorem M6 {x k:Nat} {ob:Ob} (h:(s.put x none).get k=some ob):k≠x∧s.get k=some ob:=by
 unfold St.get at h ⊢
 rw [St.P1,St.lO] at h
 by_cases e:k=x
 ·simp [e] at h
 ·simp only [e,if_false] at h;exact ⟨e,h⟩
theorem Rel.kill (h:Rel C ρ s W) (x:Nat):Rel C ρ (s.put x none) W:=
 ⟨fun k p ob hk ho=>h.con k p ob hk (M6 ho).2,fun k k' p p' ob ob' hk hk' ho ho'=>h.inj k k' p p' ob ob' hk hk' (M6 ho).2 (M6 ho').2,h.bel⟩
theorem Way.kill (x:Nat):Way ρ s W ρ (s.put x none) W:=
 ⟨Nat.le_refl _,Sub.refl _,fun _ _=>rfl,Nat.le_refl _,fun _ _ _=>rfl,fun k _ ⟨y,p,ob,h1,h2,h3,h4⟩=>⟨y,p,ob,h1,(M6 h2).2,h3,h4⟩⟩
theorem Way.refl:Way ρ s W ρ s W:=⟨Nat.le_refl _,Sub.refl _,fun _ _=>rfl,Nat.le_refl _,fun _ _ _=>rfl,fun _ _ h=>h⟩
theorem Way.trans {ρ1 ρ2:Rho} {s1 s2:St} {W1 W2:World} (h:Way ρ s W ρ1 s1 W1) (k:Way ρ1 s1 W1 ρ2 s2 W2):Way ρ s W ρ2 s2 W2:=
 ⟨Nat.le_trans h.n k.n,h.sub.trans k.sub,fun x hx=>by
  have h1:=h.n
  have h2:=k.n
  exact (k.agree x (by omega)).trans (h.agree x (by omega)),Nat.le_trans h.size k.size,
  fun b hb hn=>(k.frame b (Nat.lt_of_lt_of_le hb h.size) fun hh=>hn (h.own b hb hh)).trans (h.frame b hb hn),fun b hb hh=>h.own b hb (k.own b (Nat.lt_of_lt_of_le hb h.size) hh)⟩
theorem Rel.write (h:Rel C ρ s W) {x:Nat} {p:Pl} {ob ob':Ob} {cs':Array Value} {e:TypeId} (hp:ρ x=some p) (ho:s.get x=some ob) (hown:p.own=true) (hob':ob'.own=true)
  (hW:W'.heap[p.b]? =some (.cells cs' e (0,0))) (hsz:cs'.size=p.sz) (hle:p.o+ob'.cells.length≤p.sz) (hoth: ∀k,k≠p.b→W'.heap[k]? =W.heap[k]?) (hsize:W'.heap.size=W.heap.size)
  (hos:W'.os=W.os) (htape:W'.tape=W.tape) (hout:W'.output=W.output) (hc: ∀(i:Nat) y,ob'.cells[i]? =some y→ ∃u,cs'[p.o+i]? =some u∧CR ρ y u):
  Rel C ρ (s.put x (some ob')) W'∧Way ρ s W ρ (s.put x (some ob')) W':=by
 have hcon:=h.con x p ob hp ho
 obtain ⟨hB,_⟩:=hcon.2.2.1 hown
 have hput: ∀k o',(s.put x (some ob')).get k=some o'→(k=x∧o'=ob')∨(k≠x∧s.get k=some o'):=fun k o' hk=>by
  rw [St.fU _ _ _ _ (St.FK ho)] at hk
  by_cases hh:k=x
  ·rw [if_pos hh] at hk;cases hk;exact .inl ⟨hh,rfl⟩
  ·rw [if_neg hh] at hk;exact .inr ⟨hh,hk⟩
 refine ⟨⟨fun k q o' hk hq=> ?_,fun k k' q q' o1 o2 hk hk' h1 h2 hq hq' hb=> ?_, ?_⟩,⟨Nat.le_refl _,Sub.refl _,fun _ _=>rfl,by omega,fun k hk hn=>hoth k fun hh=>hn ⟨x,p,ob,hp,ho,hown,hh.symm⟩,fun k hk ⟨y,q,o',h1,h2,h3,h4⟩=> ?_⟩⟩
 ·rcases hput k o' hq with ⟨rfl,rfl⟩ | ⟨hne,hq⟩
  ·rw [hp] at hk;cases hk
   refine ⟨by rw [hob',hown],fun i y hy=> ?_,fun _=>⟨hB,cs',e,hW,hsz,hle⟩,fun hf=>by rw [hown] at hf;cases hf⟩
   obtain ⟨u,hu,hr⟩:=hc i y hy
   exact ⟨u,by simp [World.cell?,hW,hu],hr⟩
  ·have hc2:=h.con k q o' hk hq
   refine SL hc2 (Sub.refl _) ?_
   cases hqo:q.own with
   | true=>exact .inl (hoth _ fun hh=>hne (h.inj k x q p o' ob hk hp hq ho hqo hown hh))
   | false=>
     rcases hc2.2.2.2 hqo with hz | hz
     ·exact .inr ⟨hz,rfl⟩
     ·exact .inl (hoth _ (by omega))
 ·have g1: ∃z,s.get k=some z:=by rcases hput k o1 h1 with ⟨rfl,_⟩ | ⟨_,hz⟩;exact ⟨_,ho⟩;exact ⟨_,hz⟩
  have g2: ∃z,s.get k'=some z:=by rcases hput k' o2 h2 with ⟨rfl,_⟩ | ⟨_,hz⟩;exact ⟨_,ho⟩;exact ⟨_,hz⟩
  obtain ⟨z1,g1⟩:=g1;obtain ⟨z2,g2⟩:=g2
  exact h.inj k k' q q' z1 z2 hk hk' g1 g2 hq hq' hb
 ·exact h.bel.trans ⟨hos,htape,hout,by omega,fun k hk=>hoth k (by omega)⟩
 ·rcases hput y o' h2 with ⟨rfl,_⟩ | ⟨_,hz⟩
  ·exact ⟨y,q,ob,h1,ho,h3,h4⟩
  ·exact ⟨y,q,o',h1,hz,h3,h4⟩
theorem Rel.move (h:Rel C ρ s W) (hf:ρ s.n=none) {x:Nat} {p:Pl} {ob:Ob} {o2:Nat} {cells:List Value} (hp:ρ x=some p) (ho:s.get x=some ob) (hown:p.own=true) {cs':Array Value} {e:TypeId}
  (hW:W'.heap[p.b]? =some (.cells cs' e (0,0))) (hsz:cs'.size=p.sz) (hle:o2+cells.length≤p.sz) (hoth: ∀k,k≠p.b→W'.heap[k]? =W.heap[k]?) (hsize:W'.heap.size=W.heap.size)
  (hos:W'.os=W.os) (htape:W'.tape=W.tape) (hout:W'.output=W.output) (hc: ∀(i:Nat) y,cells[i]? =some y→ ∃u,cs'[o2+i]? =some u∧CR ρ y u):
  Rel C (upd ρ s.n ⟨p.b,o2,p.sz,true⟩) ((s.put x none).push ⟨cells,true⟩) W'∧Way ρ s W (upd ρ s.n ⟨p.b,o2,p.sz,true⟩) ((s.put x none).push ⟨cells,true⟩) W':=by
 have hcon:=h.con x p ob hp ho
 obtain ⟨hB,_⟩:=hcon.2.2.1 hown
 have hsub:=T7 hf ⟨p.b,o2,p.sz,true⟩
 have hpush: ∀k o',((s.put x none).push ⟨cells,true⟩).get k=some o'→(k=s.n∧o'=⟨cells,true⟩)∨(k≠s.n∧k≠x∧s.get k=some o'):=fun k o' hk=>by
  rw [St.II] at hk
  by_cases hh:k=s.n
  ·rw [if_pos (show k=(s.put x none).n from hh)] at hk;cases hk;exact .inl ⟨hh,rfl⟩
  ·rw [if_neg (show ¬k=(s.put x none).n from hh)] at hk
   exact .inr ⟨hh,(M6 hk).1,(M6 hk).2⟩
 refine ⟨⟨fun k q o' hk hq=> ?_,fun k k' q q' o1 o2' hk hk' h1 h2 hq hq' hb=> ?_, ?_⟩,⟨by simp [St.push,St.put],hsub,fun k hk=>ET _ _ (by rw [St.G3,St.P1] at hk;omega),by omega,fun k hk hn=>hoth k fun hh=>hn ⟨x,p,ob,hp,ho,hown,hh.symm⟩,fun k hk ⟨y,q,o',h1,h2,h3,h4⟩=> ?_⟩⟩
 ·rcases hpush k o' hq with ⟨rfl,rfl⟩ | ⟨hn,hne,hq⟩
  ·rw [DE] at hk;cases hk
   refine ⟨rfl,fun i y hy=> ?_,fun _=>⟨hB,cs',e,hW,hsz,hle⟩,fun hf=>by cases hf⟩
   obtain ⟨u,hu,hr⟩:=hc i y hy
   exact ⟨u,by simp [World.cell?,hW,hu],LK hsub hr⟩
  ·rw [ET _ _ hn] at hk
   have hc2:=h.con k q o' hk hq
   refine SL hc2 hsub ?_
   cases hqo:q.own with
   | true=>exact .inl (hoth _ fun hh=>hne (h.inj k x q p o' ob hk hp hq ho hqo hown hh))
   | false=>
     rcases hc2.2.2.2 hqo with hz | hz
     ·exact .inr ⟨hz,rfl⟩
     ·exact .inl (hoth _ (by omega))
 ·rcases hpush k o1 h1 with ⟨rfl,rfl⟩ | ⟨hn,hne,h1⟩
  ·rcases hpush k' o2' h2 with ⟨rfl,rfl⟩ | ⟨hn',hne',h2⟩
   ·rfl
   ·rw [DE] at hk;cases hk
    rw [ET _ _ hn'] at hk'
    exact absurd (h.inj k' x q' p o2' ob hk' hp h2 ho hq' hown hb.symm) hne'
  ·rw [ET _ _ hn] at hk
   rcases hpush k' o2' h2 with ⟨rfl,rfl⟩ | ⟨hn',hne',h2⟩
   ·rw [DE] at hk';cases hk'
    exact absurd (h.inj k x q p o1 ob hk hp h1 ho hq hown hb) hne
   ·rw [ET _ _ hn'] at hk'
    exact h.inj k k' q q' o1 o2' hk hk' h1 h2 hq hq' hb
 ·exact h.bel.trans ⟨hos,htape,hout,by omega,fun k hk=>hoth k (by omega)⟩
 ·rcases hpush y o' h2 with ⟨rfl,rfl⟩ | ⟨hn,hne,h2⟩
  ·rw [DE] at h1;cases h1
   exact ⟨x,p,ob,hp,ho,hown,h4⟩
  ·rw [ET _ _ hn] at h1
   exact ⟨y,q,o',h1,h2,h3,h4⟩
end
end Go.Proofs.Ytklmcfpgdfibnaa.Eng
namespace Go.Proofs.Ytklmcfpgdfibnaa.Eng
open Go Go.RowKit
set_option linter.unusedVariables false
set_option linter.unusedSimpArgs false
theorem XT (n:Nat) (z:List Value):L5 (n+1) z=z++L5 n z:=by simp [L5,List.replicate_succ]
theorem S3 (n:Nat) (z:List Value):(L5 n z).length=n*z.length:=by
 induction n with
 | zero=>simp [L5]
 | succ n ih=>rw [XT,List.length_append,ih,Nat.add_mul];omega
theorem bS (z:List Value): ∀(n i:Nat),(L5 n z)[i]? =if i<n*z.length then z[i % z.length]? else none
 | 0,i=>by simp [L5]
 | n+1,i=>by
   rw [XT]
   by_cases h:i<z.length
   ·rw [List.getElem?_append_left h,if_pos (by rw [Nat.add_mul];omega),Nat.mod_eq_of_lt h]
   ·have h':z.length≤i:=by omega
    rw [List.getElem?_append_right h',bS z n, ←Nat.mod_eq_sub_mod h']
    have:(i-z.length<n*z.length)↔(i<(n+1)*z.length):=by rw [Nat.add_mul];omega
    by_cases h2:i<(n+1)*z.length
    ·rw [if_pos h2,if_pos (this.2 h2)]
    ·rw [if_neg h2,if_neg (fun hh=>h2 (this.1 hh))]
theorem XJ {R:Value→Value→Prop} (n:Nat) (z:Array Value) (h:EF R z.toList z.toList):EF R (L5 n z.toList) (madeCells z (n*z.size)).toList:=by
 refine eT (by rw [S3];simp [madeCells]) fun i x y hx hy=> ?_
 rw [bS] at hx
 split at hx
 ·rename_i hi
  simp only [Array.length_toList] at hi hx
  have hpos:0<z.size:=Nat.pos_of_ne_zero fun h0=>by rw [h0] at hi;simp at hi
  have hm:i % z.size<z.size:=Nat.mod_lt _ hpos
  have hy':y=z[i % z.size]:=by
   simp [madeCells,hi,getElem!_pos z (i % z.size) hm] at hy
   exact hy.symm
  obtain ⟨w,hw,hr⟩:=IL _ x h hx
  have:w=y:=by
   rw [hy']
   simp [hm] at hw
   exact hw.symm
  rw [←this];exact hr
 ·cases hx
section
variable {P:Program} {ρ:Rho} {env:Env} {a:Act} {s s':St} {W:World} {B0:Nat}
theorem iR {t:TypeId} {ag:Bool} (h:WQ P t=some ag): ∃d,P.underlying t=some d∧X9 d=ag:=by
 unfold WQ at h
 cases hd:P.underlying t with
 | none=>simp [hd] at h
 | some d=>simp [hd] at h;exact ⟨d,rfl,h⟩
theorem XW {t:TypeId} {d:TypeDesc} (h:P.underlying t=some d) (W:World):(isAgg t).run P W= .ok (X9 d) W:=by
 unfold isAgg
 cases d <;> simp [underlying,h,X9]
theorem mS {t:TypeId} {ag:Bool} {sz:Nat} {x v u:Value} (hs:szT P t=some sz) (ha:WQ P t=some ag) (hg:ld ag sz x s=some (v,s')) (hx:VR ρ x u)
  (hcon: ∀h p ob,handle x=some h→ρ h=some p→s.get h=some ob→Con B0 ρ W p ob):s'=s∧ ∃w,VR ρ v w∧(Instr.loadAt t u).run P W= .ok w W:=by
 obtain ⟨i,hi,hsz⟩:=IY hs
 obtain ⟨d,hd,hag⟩:=iR ha
 unfold ld at hg
 split at hg
 ·rename_i h off
  obtain ⟨p,hp,rfl⟩:=ZW hx
  simp only [Option.bind_eq_some_iff] at hg
  obtain ⟨ob,hob,cs,hcs,hg⟩:=hg
  obtain ⟨us,h1,h2,h3⟩:=WE (hcon h p ob rfl hp hob) hcs
  cases ag with
  | true=>
    simp only [Option.some.injEq,Prod.mk.injEq] at hg
    obtain ⟨rfl,rfl⟩:=hg
    refine ⟨rfl, .agg us.toArray,⟨us.toArray,rfl,by simpa using h1⟩, ?_⟩
    have hl:=run_loadCells_list (P:=P) W ⟨p.b,p.o+off,none⟩ us h3
    simp only [Instr.loadAt,Instr.sureAddr,loadVar,Sem.run_bind,Sem.run_pure,Result.andThen_ok,XW hd,hag,if_true,sizeOf,typeInfo,run_program,hi,hsz,Sem.run_map]
    rw [←h2,hl]
    rfl
  | false=>
    simp only at hg
    split at hg
    ·rename_i c
     simp only [Option.some.injEq,Prod.mk.injEq] at hg
     obtain ⟨rfl,rfl⟩:=hg
     obtain ⟨u,rfl⟩: ∃u,us=[u]:=by
      cases us with
      | nil=>exact h1.elim
      | cons u r=>cases r with
        | nil=>exact ⟨u,rfl⟩
        | cons _ _=>exact h1.2.elim
     refine ⟨rfl,u,uV h1.1, ?_⟩
     have hl:=h3 0 u rfl
     simp only [Addr.add,if_true] at hl
     simp [Instr.loadAt,Instr.sureAddr,loadVar,XW hd,hag,hl]
    ·cases hg
 ·cases hg
theorem V0 {sz:Nat} {x u:Value} {cs:List Value} (hg:s.got sz x=some cs) (hx:VR ρ x u)
  (hcon: ∀h p ob,handle x=some h→ρ h=some p→s.get h=some ob→Con B0 ρ W p ob):
  ∃b m c us,u= .slice b m c∧us.length=m*sz∧EF (CR ρ) cs us∧(∀q,b=some q→m=0∨ ∀j w,us[j]? =some w→W.cell? (q.add j)=some w)∧(b=none→m=0):=by
 unfold St.got at hg
 split at hg
 ·rename_i n e
  cases hg
  obtain ⟨rfl,rfl⟩:=hx
  exact ⟨none,0,0,[],rfl,by simp,trivial,fun q _=> .inl rfl,fun _=>rfl⟩
 ·rename_i h off n e
  obtain ⟨p,b,c,hp,rfl,hnc,hb,_⟩:=hx
  split at hg
  ·rename_i hn
   cases hg
   subst hn
   exact ⟨b,0,c,[],rfl,by simp,trivial,fun q _=> .inl rfl,fun _=>rfl⟩
  ·rename_i hn
   split at hg
   ·simp only [Option.bind_eq_some_iff] at hg
    obtain ⟨ob,hob,hcs⟩:=hg
    obtain ⟨us,h1,h2,h3⟩:=WE (hcon h p ob rfl hp hob) hcs
    obtain rfl:=hb hn
    exact ⟨_,n,c,us,rfl,h2,h1,fun q hq=> .inr (by cases hq;exact h3),fun hh=>by cases hh⟩
   ·cases hg
 ·cases hg
theorem hI: ∀{cs:List Value},cs.all isByte=true→ ∃ns:List Int,cs=ns.map (Value.int .u8)
 | [],_=>⟨[],rfl⟩
 | c::cs,h=>by
   simp only [List.all_cons,Bool.and_eq_true] at h
   obtain ⟨ns,hns⟩:=hI (cs:=cs) h.2
   have h1:=h.1
   unfold isByte at h1
   split at h1
   ·rename_i n;exact ⟨n::ns,by simp [hns]⟩
   ·cases h1
theorem qN {src dst e:TypeId} {x v u:Value} (h1:P.underlying src=some (.slice e)) (h2:P.underlying dst=some .string) (h3:P.underlying e=some (.int .u8)) (hg:b2s x s=some (v,s')) (hx:VR ρ x u)
  (hcon: ∀h p ob,handle x=some h→ρ h=some p→s.get h=some ob→Con B0 ρ W p ob):s'=s∧ ∃w,VR ρ v w∧(convert src dst u).run P W= .ok w W:=by
 unfold b2s at hg
 simp only [Option.bind_eq_some_iff] at hg
 obtain ⟨cs,hcs,hg⟩:=hg
 split at hg
 ·rename_i hall
  simp only [Option.some.injEq,Prod.mk.injEq] at hg
  obtain ⟨rfl,rfl⟩:=hg
  obtain ⟨b,m,c,us,rfl,hl,hr,hread,hnone⟩:=V0 hcs hx hcon
  obtain ⟨ns,rfl⟩:=hI hall
  have hus:us=ns.map (Value.int .u8):=NF (by simp [plain]) hr
  subst hus
  refine ⟨rfl,_,rfl, ?_⟩
  rw [run_convert_bytes_string W src dst e b m c h1 h3 h2]
  have hfold: ∀(l:List Int) (z:ByteArray),(l.map (Value.int .u8)).foldl XG z=l.foldl (fun r n=>r.push (UInt8.ofNat n.toNat)) z:=by
   intro l;induction l with
   | nil=>intro z;rfl
   | cons q r ih=>intro z;simp only [List.map_cons,List.foldl_cons];exact ih _
  rw [hfold]
  simp only [Nat.mul_one] at hl
  cases b with
  | none=>
    have hm:=hnone rfl
    subst hm
    have:ns=[]:=by simpa using hl
    subst this
    rfl
  | some q=>
    have hload:(loadCells q m).run P W= .ok (ns.map (Value.int .u8)).toArray W:=by
     rcases hread q rfl with hm | hread
     ·subst hm
      have:ns=[]:=by simpa using hl
      subst this
      rfl
     ·rw [←hl];exact run_loadCells_list (P:=P) W q _ hread
    exact run_bytesToString W q m c ns hload
 ·cases hg
theorem bW {o:Oper} {w v:Value} {g:M1} (hE:VRE ρ env a) (h:BC P env o=some (.rd w g)) (hg:g s=some (v,s'))
  (hcon: ∀h p ob,handle w=some h→ρ h=some p→s.get h=some ob→Con B0 ρ W p ob):s'=s∧ ∃u,VR ρ v u∧(execOp a.eval o).run P W= .ok (.value u) W:=by
 obtain ⟨dst,op,type,pos,after,guard⟩:=o
 cases op
 case load t x=>
  simp only [BC,Option.bind_eq_some_iff,Option.map_eq_some_iff,Stp.rd.injEq] at h
  obtain ⟨sz,hs,ag,ha,rfl,rfl⟩:=h
  obtain ⟨h1,u,h2,h3⟩:=mS hs ha hg (C3 hE x) hcon
  exact ⟨h1,u,h2,PZ h3⟩
 case convert src dst' x=>
  simp only [BC] at h
  split at h
  ·cases h
  ·rename_i e h1 h2
   split at h
   ·rename_i h3
    simp only [Option.some.injEq,Stp.rd.injEq] at h
    obtain ⟨rfl,rfl⟩:=h
    obtain ⟨k1,u,k2,k3⟩:=qN h1 h2 h3 hg (C3 hE x) hcon
    exact ⟨k1,u,k2,PZ k3⟩
   ·cases h
  ·cases h
 case slice t x lo hi mx=>cases mx <;> simp only [BC] at h <;> (repeat' (split at h)) <;> simp [Option.map_eq_some_iff] at h
 all_goals (simp only [BC] at h;(repeat' (split at h)) <;> simp [Option.bind_eq_some_iff,Option.map_eq_some_iff] at h <;> (try (obtain ⟨_,_,h⟩:=h;(repeat' (split at h)) <;> simp at h)))
theorem sB {t e:TypeId} {z:List Value} {len sz by':Nat} {parts:Array (Nat×Operand)} {v:Value} (hE:VRE ρ env a) (ht:P.underlying t=some (.slice e)) (hz:IC P e=some (z,sz,by')) (hpos:0<sz) (hlim:len*sz≤2^24)
  (hg:bs sz len z (F7 env sz parts.toList) s=some (v,s')): ∃cells cs,s'=s.push ⟨cells,true⟩∧EF (CR ρ) cells (Array.toList cs)∧handle v=some s.n∧
   ∀W, ∃u,(Instr.buildSlice t len (parts.map fun (i,x)=>(i,a.eval x))).run P W= .ok u (W.alloc (.cells cs e))∧ ∀ρ',ρ' s.n=some ⟨W.heap.size,0,cs.size,true⟩→VR ρ' v u:=by
 obtain ⟨i,zv,hi,hzv,hzc,hsz,_,hlen,hself⟩:=JF hz
 simp only [bs,Option.map_eq_some_iff,Prod.mk.injEq] at hg
 obtain ⟨cells,hcells,rfl,rfl⟩:=hg
 have hzs:zv.cells.size=sz:=by rw [←hlen, ←hzc];simp
 have hmade:EF (CR ρ) (L5 len z) (madeCells zv.cells (len*sz)).toList:=by
  rw [←hzc, ←hzs];exact XJ len zv.cells (by rw [hzc];exact hself ρ)
 obtain ⟨B,hB,hr⟩:=RN (ρ:=ρ) _ _ (L5 len z) cells (madeCells zv.cells (len*sz)) (QR hE sz parts.toList) hmade hcells
 have hBs:B.size=len*sz:=by
  have h1:=CZ hr
  have h2:cells.length=(L5 len z).length:=by
   have: ∀(ps:List (Nat×Nat×Value)) (cs cs':List Value),LS cs ps=some cs'→cs'.length=cs.length:=by
    intro ps
    induction ps with
    | nil=>intro cs cs' h;simp [LS] at h;rw [h]
    | cons q r ih=>
      obtain ⟨o,z,v⟩:=q
      intro cs cs' h
      simp only [LS] at h
      split at h
      ·rename_i hc
       simp only [Bool.and_eq_true,beq_iff_eq,decide_eq_true_eq] at hc
       rw [ih _ _ h,FY _ _ _ (by omega)]
      ·cases h
   exact this _ _ _ hcells
  rw [S3,hlen] at h2
  simp only [Array.length_toList] at h1
  omega
 refine ⟨cells,B,rfl,hr,rfl,fun W=> ?_⟩
 ·refine ⟨.slice (some ⟨W.heap.size,0,none⟩) len len, ?_,fun ρ' hp=> ?_⟩
  ·by_cases h0:len*sz=0
   ·have hl0:len=0:=by
     rcases Nat.mul_eq_zero.1 h0 with h | h
     ·exact h
     ·omega
    subst hl0
    have hB':Instr.fill (fun i=>some (i*sz,sz)) #[] (parts.toList.map fun (i,x)=>(i,a.eval x))=some B:=by
     simpa [madeCells,Array.range_zero'] using hB
    simp only [Instr.buildSlice,underlying,Sem.run_bind,run_program,Result.andThen_ok,ht,Sem.run_pure,sizeOf,typeInfo,hi,hsz,Nat.zero_mul,Nat.not_lt_zero,if_false,if_true,Array.toList_map,newRow,run_newObj]
    simp [Array.range_zero',hB']
   ·have hlim': ¬(len*sz>2^24):=by omega
    simp only [Instr.buildSlice,underlying,zeroValue,Sem.run_bind,run_program,Result.andThen_ok,ht,Sem.run_pure,sizeOf,typeInfo,hi,hsz,hlim',h0,if_false,hzv,Array.toList_map]
    have hB':=hB
    simp only [madeCells] at hB'
    simp [hB',newRow]
  ·refine ⟨_,_,_,hp,rfl,Nat.le_refl _,fun _=>by simp,fun _=>⟨by simp [hBs],0,rfl,Nat.zero_le _,fun _=>rfl⟩⟩
theorem run_mk {t e:TypeId} {z:List Value} {sz by':Nat} {x y ux uy v:Value} (ht:P.underlying t=some (.slice e)) (hz:IC P e=some (z,sz,by')) (hby:0<by')
  (hg:mk by' sz z x y s=some (v,s')) (hx:VR ρ x ux) (hy:VR ρ y uy): ∃cells cs,s'=s.push ⟨cells,true⟩∧EF (CR ρ) cells (Array.toList cs)∧handle v=some s.n∧
   ∀W, ∃u,(Instr.makeSlice t ux uy).run P W= .ok u (W.alloc (.cells cs e))∧ ∀ρ',ρ' s.n=some ⟨W.heap.size,0,cs.size,true⟩→VR ρ' v u:=by
 obtain ⟨i,zv,hi,hzv,hzc,hsz,hb,hlen,hself⟩:=JF hz
 unfold mk at hg
 split at hg
 ·rename_i n c
  split at hg
  ·rename_i hc
   obtain ⟨h0,rfl,hlim⟩:=hc
   simp only [Option.some.injEq,Prod.mk.injEq] at hg
   obtain ⟨rfl,rfl⟩:=hg
   rw [J8 hx,J8 hy]
   have hzs:zv.cells.size=sz:=by rw [←hlen, ←hzc];simp
   refine ⟨L5 c.toNat z,madeCells zv.cells (c.toNat*sz),rfl, ?_,rfl,fun W=>⟨.slice (some ⟨W.heap.size,0,none⟩) c.toNat c.toNat, ?_,fun ρ' hp=> ?_⟩⟩
   ·rw [←hzc, ←hzs];exact XJ _ zv.cells (by rw [hzc];exact hself ρ)
   ·have hcb:c≤9223372036854775807:=by
     have:(1:Int)*c≤by'*c:=Int.mul_le_mul_of_nonneg_right (by omega) h0
     omega
    rw [←hsz]
    exact run_make (P:=P) W t e i zv ht hi hzv .i64 .i64 c c h0 (Int.le_refl _) (by rw [hb];omega) hcb
   ·refine ⟨_,_,_,hp,rfl,Nat.le_refl _,fun _=>by simp,fun _=>⟨by simp [madeCells],0,rfl,Nat.zero_le _,fun _=>rfl⟩⟩
  ·cases hg
 ·cases hg
theorem aU {o:Oper} {v:Value} {g:M1} (hE:VRE ρ env a) (h:BC P env o=some (.al g)) (hg:g s=some (v,s')):
  ∃cells cs e,s'=s.push ⟨cells,true⟩∧EF (CR ρ) cells (Array.toList cs)∧handle v=some s.n∧
   ∀W, ∃u,(execOp a.eval o).run P W= .ok (.value u) (W.alloc (.cells cs e))∧ ∀ρ',ρ' s.n=some ⟨W.heap.size,0,cs.size,true⟩→VR ρ' v u:=by
 obtain ⟨dst,op,type,pos,after,guard⟩:=o
 cases op
 case alloc t=>
  simp only [BC,Option.map_eq_some_iff,Stp.al.injEq] at h
  obtain ⟨⟨z,sz,b⟩,hz,rfl⟩:=h
  obtain ⟨i,zv,hi,hzv,hzc,hsz,hb,hlen,hself⟩:=JF hz
  simp only [al,Option.some.injEq,Prod.mk.injEq] at hg
  obtain ⟨rfl,rfl⟩:=hg
  refine ⟨z,zv.cells,t,rfl,by rw [hzc];exact hself ρ,rfl,fun W=>⟨.pointer (some ⟨W.heap.size,0,none⟩), ?_,fun ρ' hp=>⟨_,hp,by simp⟩⟩⟩
  exact PZ (by simp [Instr.alloc,zeroValue,typeInfo,hi,hzv,newVar,newRow])
 case box t x=>
  simp only [BC,Option.some.injEq,Stp.al.injEq] at h
  subst h
  unfold bx at hg
  split at hg
  ·rename_i hv
   simp only [Option.some.injEq,Prod.mk.injEq] at hg
   obtain ⟨rfl,rfl⟩:=hg
   refine ⟨_,(a.eval x).cells,t,rfl,WG (C3 hE x) hv,rfl,fun W=>⟨.pointer (some ⟨W.heap.size,0,none⟩), ?_,fun ρ' hp=>⟨_,hp,by simp⟩⟩⟩
   exact PZ (by simp [Instr.box,newVar,newRow])
  ·cases hg
 case buildSlice t len parts=>
  simp only [BC] at h
  split at h
  ·rename_i e ht
   simp only [Option.bind_eq_some_iff] at h
   obtain ⟨⟨z,sz,b⟩,hz,h⟩:=h
   split at h
   ·rename_i hc
    simp only [Bool.and_eq_true,decide_eq_true_eq] at hc
    simp only [Option.some.injEq,Stp.al.injEq] at h
    subst h
    obtain ⟨cells,cs,h1,h2,h3,h4⟩:=sB hE ht hz hc.1 hc.2 hg
    exact ⟨cells,cs,e,h1,h2,h3,fun W=>by obtain ⟨u,hu,hr⟩:=h4 W;exact ⟨u,PZ hu,hr⟩⟩
   ·cases h
  ·cases h
 case makeSlice t x y=>
  simp only [BC] at h
  split at h
  ·rename_i e ht
   simp only [Option.bind_eq_some_iff] at h
   obtain ⟨⟨z,sz,b⟩,hz,h⟩:=h
   split at h
   ·rename_i hc
    simp only [Bool.and_eq_true,decide_eq_true_eq] at hc
    simp only [Option.some.injEq,Stp.al.injEq] at h
    subst h
    obtain ⟨cells,cs,h1,h2,h3,h4⟩:=run_mk ht hz hc.2 hg (C3 hE x) (C3 hE y)
    exact ⟨cells,cs,e,h1,h2,h3,fun W=>by obtain ⟨u,hu,hr⟩:=h4 W;exact ⟨u,PZ hu,hr⟩⟩
   ·cases h
  ·cases h
 case slice t x lo hi mx=>cases mx <;> simp only [BC] at h <;> (repeat' (split at h)) <;> simp [Option.map_eq_some_iff] at h
 all_goals (simp only [BC] at h;(repeat' (split at h)) <;> simp [Option.bind_eq_some_iff,Option.map_eq_some_iff] at h <;> (try (obtain ⟨_,_,h⟩:=h;(repeat' (split at h)) <;> simp at h)))
end
end Go.Proofs.Ytklmcfpgdfibnaa.Eng
namespace Go.Proofs.Ytklmcfpgdfibnaa.Eng
open Go Go.RowKit
set_option linter.unusedVariables false
set_option linter.unusedSimpArgs false
section
variable {C:Ctx} {ρ:Rho} {env:Env} {a:Act} {s s':St} {W:World}
theorem OW (cs:Array Value) (o:Nat) (us:List Value):(cs.toList.take o++us++cs.toList.drop (o+us.length)).toArray=(CC cs.toList o us).toArray:=rfl
theorem ZE {P:Program} {t:TypeId} {i:TypeInfo} {b o:Nat} {u:Value} {cs:Array Value} {e:TypeId} (hi:P.info? t=some i) (hs:u.cells.size=i.size) (h1: ∀x∈u.cells.toList,x.oneCell'=true)
  (hW:W.heap[b]? =some (.cells cs e (0,0))) (hl:o+u.cells.size≤cs.size):(Instr.storeAt t (.pointer (some ⟨b,o,none⟩)) u).run P W= .ok () (W.setRow b (CC cs.toList o u.cells.toList).toArray):=by
 have hst:=run_storeCells_at P b o e u.cells.toList 0 cs W hW (by simpa using hl) h1
 simp only [Nat.add_zero,OW] at hst
 simp [Instr.storeAt,Instr.sureAddr,storeVar,sizeOf,typeInfo,hi,hs,hst]
theorem U3 {ρ:Rho}: ∀{l m:List Value},EF (CR ρ) l m→ ∀x∈m,x.oneCell'=true
 | [],[],_=>by simp
 | x::xs,y::ys,h=>by
   intro z hz
   rcases List.mem_cons.1 hz with rfl | hz
   ·exact dE h.1
   ·exact U3 h.2 z hz
 | [],_::_,h=>h.elim
 | _::_,[],h=>h.elim
theorem kA {t:TypeId} {sz:Nat} {x y v ux uy:Value} (hR:Rel C ρ s W) (hs:szT C.P t=some sz) (hg:sto sz x y s=some (v,s')) (hx:VR ρ x ux) (hy:VR ρ y uy):
  v=undef∧ ∃W',(Instr.storeAt t ux uy).run C.P W= .ok () W'∧Rel C ρ s' W'∧Way ρ s W ρ s' W':=by
 obtain ⟨i,hi,hsz⟩:=IY hs
 unfold sto at hg
 split at hg
 ·rename_i h off
  obtain ⟨p,hp,rfl⟩:=ZW hx
  simp only [Option.bind_eq_some_iff] at hg
  obtain ⟨ob,hob,hg⟩:=hg
  split at hg
  ·rename_i hc
   simp only [Bool.and_eq_true,beq_iff_eq,decide_eq_true_eq] at hc
   obtain ⟨⟨⟨ho,hv⟩,hl⟩,hle⟩:=hc
   simp only [Option.some.injEq,Prod.mk.injEq] at hg
   obtain ⟨rfl,rfl⟩:=hg
   have hcl:=WG hy hv
   have hcon:=hR.con h p ob hp hob
   have hown:p.own=true:=by rw [←hcon.1];exact ho
   obtain ⟨hB,cs,e,hW,hcs,hfit⟩:=hcon.2.2.1 hown
   have hul:uy.cells.toList.length=sz:=by rw [←CZ hcl];exact hl
   have hul':uy.cells.size=sz:=by simpa using hul
   have hfit2:p.o+off+uy.cells.size≤cs.size:=by omega
   refine ⟨rfl,_,ZE hi (by omega) (U3 hcl) hW hfit2, ?_⟩
   refine hR.write (ob':={ob with cells:=CC ob.cells off (cellsOf y)}) hp hob hown ho (setRow_heap W p.b cs _ e (0,0) hW) ?_ ?_ (fun k hk=>setRow_other W p.b k _ hk) (by simp) rfl rfl rfl fun j z hj=> ?_
   ·simp [FY,hfit2,hcs]
    rw [FY _ _ _ (by simpa using hfit2)];simp [hcs]
   ·rw [FY _ _ _ (by omega)];exact hfit
   ·rw [G9 _ _ _ (by omega)] at hj
    rw [List.getElem?_toArray,G9 _ _ _ (by simpa using hfit2)]
    have hl2:(cellsOf y).length=uy.cells.toList.length:=CZ hcl
    by_cases hin:off≤j∧j<off+(cellsOf y).length
    ·rw [if_pos hin] at hj
     rw [if_pos (by omega)]
     obtain ⟨u,hu,hr⟩:=IL _ z hcl hj
     exact ⟨u,by rw [←hu];congr 1;omega,hr⟩
    ·rw [if_neg hin] at hj
     rw [if_neg (by omega)]
     obtain ⟨u,hu,hr⟩:=hcon.2.1 j z hj
     refine ⟨u, ?_,hr⟩
     simpa [World.cell?,hW] using hu
  ·cases hg
 ·cases hg
structure Src (ρ:Rho) (s:St) (W:World) (sz:Nat) (cs:List Value) (b:Option Addr) (m:Nat) (us:List Value):Prop where
 len:us.length=m*sz
 rel:EF (CR ρ) cs us
 read:m=0∨ ∃q,b=some q∧ ∀(j:Nat) w,us[j]? =some w→W.cell? (q.add j)=some w
theorem W9 {P:Program} {sz m c:Nat} {cs us:List Value} {b:Option Addr} (h:Src ρ s W sz cs b m us) {W':World} (hW: ∀q,W'.cell? q=W.cell? q):
  (Builtin.firstCells sz m (.slice b m c)).run P W'= .ok us.toArray W':=by
 rcases h.read with h0 | ⟨q,rfl,hq⟩
 ·have:us=[]:=by have:=h.len;rw [h0] at this;simpa using this
  subst this
  subst h0
  cases b <;> simp [Builtin.firstCells,loadCells,loadCellsFrom]
 ·exact run_firstCells_some W' sz m q m c us h.len fun j v hj=>by rw [hW];exact hq j v hj
theorem L4 {t:TypeId} {x y:Operand} {dst:Option Tmp} {type:TypeId} {pos:String} {after:Array Edge} {guard:Option (Nat×Bool)}:
  execOp a.eval ⟨dst, .call {callee:= .builtin .append,args:= #[x,y],argTypes:= #[t,t]},type,pos,after,guard⟩=(do pure (Next.value (←Builtin.append_ #[t,t] type #[a.eval x,a.eval y]))):=by
 simp [execOp,resolve,invoke,builtin]
theorem aD {need old:Nat} (h:old<need):need≤Builtin.nextslicecap need old:=le_nextslicecap h
theorem UG {P:Program} {o:Oper} {x y:Operand} {t e ty:TypeId} {i:TypeInfo} {z:Value} {dst:Option Tmp} {pos:String} {after:Array Edge} {guard:Option (Nat×Bool)} {N:Act→World→Prop} {Q:Exit→Act→World→Prop}
  (ho:o=⟨dst, .call {callee:= .builtin .append,args:= #[x,y],argTypes:= #[t,t]},ty,pos,after,guard⟩)
  (ht:P.underlying t=some (.slice e)) (hi:P.info? e=some i) (hz:i.zero=some z) (hzs:z.cells.size=i.size) (hsz:0<i.size) (hby:0<i.bytes)
  {b q:Option Addr} {n c m d:Nat} {cs1 cs2 us1 us2:List Value} (hx:a.eval x= .slice b n c) (hy:a.eval y= .slice q m d)
  (h1:Src ρ s W i.size cs1 b n us1) (h2:Src ρ s W i.size cs2 q m us2) (hg:c<n+m) (hb:b=none→n=0∧c=0) (hlim:(n+m)*i.bytes≤2^47) (hm:0<m)
  (hN: ∀cap,n+m≤cap→N (a.put o.dst (.slice (some ⟨W.heap.size,0,none⟩) (n+m) cap)) (W.drew.alloc (.cells (us1.toArray++us2.toArray++Builtin.zeroCells z.cells (cap-(n+m))) e)))
  :o.wp P a W N Q:=by
 obtain ⟨q',rfl,hq'⟩: ∃q',q=some q'∧ ∀(j:Nat) w,us2[j]? =some w→W.cell? (q'.add j)=some w:=by
  rcases h2.read with h0 | ⟨q',rfl,hq'⟩
  ·omega
  ·exact ⟨q',rfl,hq'⟩
 have hp:Builtin.nextslicecap (n+m) c*i.bytes≤281474976710656:=growslice_fits hg (by simpa using hlim)
 ·refine id ?_
  have hle:=aD hg
  have h63:((n+m:Nat):Int)≤9223372036854775807:=by
   have:n+m≤Builtin.nextslicecap (n+m) c*i.bytes:=Nat.le_trans hle (Nat.le_mul_of_pos_right _ hby)
   omega
  have hrun:(Builtin.append_ #[t,t] ty #[a.eval x,a.eval y]).run P W= .ok (.slice (some ⟨W.heap.size,0,none⟩) (n+m) (grownCap W (n+m) c e))
    (W.drew.alloc (.cells (us1.toArray++us2.toArray++Builtin.zeroCells z.cells (grownCap W (n+m) c e-(n+m))) e)):=by
   rw [hx,hy]
   cases b with
   | none=>
     obtain ⟨rfl,rfl⟩:=hb rfl
     have hu1:us1=[]:=by have:=h1.len;simpa using this
     subst hu1
     have hr:=run_append_nil (P:=P) W t ty e i z ht hi hz q' m d us2 h2.len hq' hm (by omega) (by rw [Nat.zero_add,nextslicecap_zero hm] at hp;exact hp)
     simpa using hr
   | some b'=>
     have hold: ∀(j:Nat) w,us1[j]? =some w→W.cell? (b'.add j)=some w:=by
      rcases h1.read with h0 | ⟨b'',he,hq⟩
      ·have:us1=[]:=by have:=h1.len;rw [h0] at this;simpa using this
       subst this;intro j w hj;simp at hj
      ·cases he;exact hq
     exact run_append_grow (P:=P) W t ty e i z ht hi hz b' n c us1 h1.len hold q' m d us2 h2.len hq' hg h63 hp
  unfold Oper.wp
  subst ho
  rw [L4,PZ hrun]
  exact hN _ (grownCap_ge W (n+m) c e)
theorem PY {P:Program} {o:Oper} {N:Act→World→Prop} {Q:Exit→Act→World→Prop} {u:Value} {W':World} (h:(execOp a.eval o).run P W= .ok (.value u) W') (hN:N (a.put o.dst u) W'):o.wp P a W N Q:=by
 unfold Oper.wp;rw [h];exact hN
theorem bJ {B sz n m c:Nat} {ρ':Rho} {p:Pl} (hp:ρ' B=some p) (h:n+m≤c) {b:Option Addr} (hb:n+m≠0→b=some ⟨p.b,p.o,none⟩)
  (ho:p.o+c*sz=p.sz) (hb': ∃o',b=some ⟨p.b,o',none⟩∧o'≤p.sz∧(c≠0→o'=p.o)):VR ρ' (sl B 0 (n+m) sz) (.slice b (n+m) c):=
 ⟨p,b,c,hp,rfl,h,by simpa using hb,fun _=>⟨by simpa using ho,by simpa using hb'⟩⟩
theorem lK {o:Oper} {x y:Operand} {t e ty:TypeId} {z:List Value} {sz by':Nat} {dst:Option Tmp} {pos:String} {after:Array Edge} {guard:Option (Nat×Bool)} {v:Value} {N:Act→World→Prop} {Q:Exit→Act→World→Prop}
  (ho:o=⟨dst, .call {callee:= .builtin .append,args:= #[x,y],argTypes:= #[t,t]},ty,pos,after,guard⟩) (hR:Rel C ρ s W) (hE:VRE ρ env a)
  (ht:C.P.underlying t=some (.slice e)) (hz:IC C.P e=some (z,sz,by')) (hsz:0<sz) (hby:0<by') (hg:ap sz by' (ev env x) (ev env y) s=some (v,s')) (hfree:TQ ρ s.n s'.n)
  (hN: ∀ρ' W' u,Rel C ρ' s' W'→Way ρ s W ρ' s' W'→VR ρ' v u→N (a.put o.dst u) W'):o.wp C.P a W N Q:=by
 obtain ⟨i,zv,hi,hzv,hzc,his,hib,hzl,hself⟩:=JF hz
 have hzs:zv.cells.size=i.size:=by rw [his, ←hzl, ←hzc];simp
 subst his
 subst hib
 unfold ap at hg
 simp only [Option.bind_eq_some_iff] at hg
 obtain ⟨new,hnew,hg⟩:=hg
 have hyv:=C3 hE y
 have hxv:=C3 hE x
 obtain ⟨q,m,d,us2,hy,hl2,hr2,hread2,hnone2⟩:=V0 hnew hyv fun h p ob _ h1 h2=>hR.con h p ob h1 h2
 have h2:Src ρ s W i.size new q m us2:=⟨hl2,hr2,by
  cases q with
  | none=>exact .inl (hnone2 rfl)
  | some q'=>exact (hread2 q' rfl).imp id fun h=>⟨q',rfl,h⟩⟩
 have hnl:new.length=m*i.size:=by rw [CZ hr2];exact hl2
 have hdiv:new.length/i.size=m:=by rw [hnl];exact Nat.mul_div_cancel _ hsz
 have grown: ∀{n:Nat} {cs1 us1:List Value} {s1:St},us1.length=n*i.size→EF (CR ρ) cs1 us1→s1.n=s.n→Rel C ρ s1 W→Way ρ s W ρ s1 W→s'=s1.push ⟨cs1++new,true⟩→v=sl s.n 0 (n+m) i.size→
   ∀cap,n+m≤cap→N (a.put o.dst (.slice (some ⟨W.heap.size,0,none⟩) (n+m) cap)) (W.drew.alloc (.cells (us1.toArray++us2.toArray++Builtin.zeroCells zv.cells (cap-(n+m))) e)):=by
  intro n cs1 us1 s1 hl1 hr1 hn1 hR1 hw1 hs' hv cap hcap
  have hcs:(us1.toArray++us2.toArray++Builtin.zeroCells zv.cells (cap-(n+m))).size=cap*i.size:=by
   simp only [Array.size_append,List.size_toArray,size_zeroCells,hl1,hl2,hzs, ←Nat.add_mul]
   congr 1;omega
  have hrel:=HB hr1 hr2
  obtain ⟨g1,g2⟩:=hR1.alloc (by rw [hn1];exact hfree s.n (Nat.le_refl _) (by rw [hs',St.G3,hn1];omega)) (W':=W.drew.alloc (.cells (us1.toArray++us2.toArray++Builtin.zeroCells zv.cells (cap-(n+m))) e)) (cells:=cs1++new) rfl rfl rfl rfl (fun j w hj=>by
   obtain ⟨u,hu,hr⟩:=IL j w hrel hj
   refine ⟨u, ?_,hr⟩
   have hlt:j<(us1++us2).length:=(List.getElem?_eq_some_iff.1 hu).1
   rw [Array.getElem?_append_left (by simpa using hlt)]
   simpa using hu) (by rw [hcs,CZ hrel,List.length_append,hl1,hl2, ←Nat.add_mul];exact Nat.mul_le_mul_right _ hcap)
  subst hs'
  subst hv
  rw [hn1] at g1 g2
  refine hN _ _ _ g1 (hw1.trans g2) (bJ (DE _ _ _) hcap (fun _=>rfl) (by simp only [Nat.zero_add];exact hcs.symm) ⟨0,rfl,Nat.zero_le _,fun _=>rfl⟩)
 split at hg
 ·rename_i n0 e0 hex
  rw [hex] at hxv
  obtain ⟨rfl,hx⟩:=hxv
  split at hg
  ·simp only [Option.some.injEq,Prod.mk.injEq] at hg
   obtain ⟨rfl,rfl⟩:=hg
   have hm0:m=0:=by
    rcases Nat.mul_eq_zero.1 (show m*i.size=0 by rw [←hnl];rfl) with h | h
    ·exact h
    ·omega
   refine (PY (u:= .slice none 0 0) (W':=W) ?_ (hN ρ W _ hR Way.refl ⟨rfl,rfl⟩))
   subst ho
   rw [L4]
   refine PZ ?_
   subst hm0
   have hf:=W9 (P:=C.P) (c:=d) h2 (W':=W) fun _=>rfl
   rw [hx,hy]
   simp [Builtin.append_,run_underlying ht,sizeOf,typeInfo,hi,Builtin.lenOf,hf]
  ·rename_i c cs
   obtain ⟨hlim,hg⟩:=Option.ite_none_right_eq_some.1 hg
   simp only [Option.some.injEq,Prod.mk.injEq] at hg
   obtain ⟨hv,hs'⟩:=hg
   have hm:0<m:=by
    rcases Nat.eq_zero_or_pos m with h | h
    ·rw [h] at hnl;simp at hnl
    ·exact h
   refine UG (us1:=[]) (cs1:=[]) (n:=0) (c:=0) (b:=none) ho ht hi hzv hzs hsz hby hx hy ⟨by simp,trivial, .inl rfl⟩ h2 (by omega) (fun _=>⟨rfl,rfl⟩) (by rw [Nat.zero_add, ←hdiv];exact hlim) hm
    (grown (s1:=s) (n:=0) (cs1:=[]) (us1:=[]) (by simp) trivial rfl hR Way.refl (by simpa using hs'.symm) (by rw [←hv,hdiv,Nat.zero_add]))
 ·rename_i h off n e0 hex
  rw [hex] at hxv
  obtain ⟨p,ba,c,hp,hx,hnc,hba,hown'⟩:=hxv
  simp only [Option.bind_eq_some_iff] at hg
  obtain ⟨ob,hob,old,hold,hg⟩:=hg
  obtain ⟨hcond,hg'⟩:=Option.ite_none_right_eq_some.1 hg
  clear hg
  ·rw [Bool.and_eq_true,Bool.and_eq_true,beq_iff_eq] at hcond
   obtain ⟨⟨hob0,rfl⟩,hsh⟩:=hcond
   rw [Bool.and_eq_true,decide_eq_true_eq] at hob0
   obtain ⟨hlim,hob1⟩:=hob0
   rw [hdiv] at hlim
   obtain ⟨hv,hs'⟩:=Prod.mk.inj (Option.some.inj hg')
   have hcon:=hR.con h p ob hp hob
   have hown:p.own=true:=by rw [←hcon.1];exact hob1
   obtain ⟨hB,cs,ce,hW,hcs,hfit⟩:=hcon.2.2.1 hown
   obtain ⟨hceq,o',hbo,ho',hco⟩:=hown' hown
   obtain ⟨us1,hr1,hl1,hu1⟩:=WE hcon hold
   obtain ⟨k1,k2,k3,k4⟩:=NP hold
   have h1:Src ρ s W i.size old ba n us1:=⟨hl1,hr1,by
    by_cases hn:n=0
    ·exact .inl hn
    ·exact .inr ⟨_,hba hn,hu1⟩⟩
   rw [hdiv] at hv
   by_cases hroom:n+m≤c
   ·
    have hst:o'+n*i.size+us2.length≤cs.size:=by
     rw [hl2,hcs]
     by_cases hc0:c=0
     ·have hn0:n=0:=by omega
      have hm0:m=0:=by omega
      subst hn0;subst hm0;simpa using ho'
     ·rw [hco hc0, ←hceq]
      have:=Nat.mul_le_mul_right i.size hroom
      rw [Nat.add_mul] at this
      omega
    have hrs:=run_storeCells_at C.P p.b (o'+n*i.size) ce us2 0 cs W hW (by simpa using hst) (U3 hr2)
    simp only [Nat.add_zero,OW] at hrs
    have hf:=W9 (P:=C.P) (c:=d) h2 (W':=W) fun _=>rfl
    have hrun:(Builtin.append_ #[t,t] ty #[a.eval x,a.eval y]).run C.P W= .ok (.slice ba (n+m) c) (W.setRow p.b (CC cs.toList (o'+n*i.size) us2).toArray):=by
     rw [hx,hy,hbo]
     simp [Builtin.append_,run_underlying ht,sizeOf,typeInfo,hi,Builtin.lenOf,hroom,hf,Addr.add_lit,hrs]
    obtain ⟨g1,g2⟩:=hR.move (hfree s.n (Nat.le_refl _) (by rw [←hs',St.G3,St.P1];omega)) (W':=W.setRow p.b (CC cs.toList (o'+n*i.size) us2).toArray) (o2:=p.o+off) (cells:=old++new) hp hob hown (setRow_heap W p.b cs _ ce (0,0) hW)
     (by simp;rw [FY _ _ _ (by simpa using hst)];simpa using hcs) (by
      rw [List.length_append,k3,hnl, ←Nat.add_mul, ←hceq]
      exact Nat.add_le_add_left (Nat.mul_le_mul_right _ hroom) _) (fun k hk=>setRow_other W p.b k _ hk) (by simp) rfl rfl rfl (fun j w hj=>by
       by_cases hc0:c=0
       ·have hn0:n=0:=by omega
        have hm0:m=0:=by omega
        have e1:old=[]:=by rw [hn0] at k3;simpa using k3
        have e2:new=[]:=by rw [hm0] at hnl;simpa using hnl
        rw [e1,e2] at hj;simp at hj
       ·have ho2:=hco hc0
        subst ho2
        rw [List.getElem?_toArray,G9 _ _ _ (by simpa using hst)]
        by_cases hjn:j<n*i.size
        ·rw [List.getElem?_append_left (by omega)] at hj
         rw [if_neg (by omega)]
         obtain ⟨u,hu,hr⟩:=hcon.2.1 (off+j) w (k4 j w hj)
         refine ⟨u, ?_,hr⟩
         have:W.cell? ⟨p.b,p.o+(off+j),none⟩=cs[p.o+(off+j)]? :=by simp [World.cell?,hW]
         rw [this] at hu
         simpa [Nat.add_assoc] using hu
        ·rw [List.getElem?_append_right (by omega),k3] at hj
         obtain ⟨u,hu,hr⟩:=IL _ w hr2 hj
         have hlt:j-n*i.size<us2.length:=(List.getElem?_eq_some_iff.1 hu).1
         rw [if_pos (by omega)]
         exact ⟨u,by rw [←hu];congr 1;omega,hr⟩)
    subst hs'
    subst hv
    refine PY ?_ (hN _ _ _ g1 g2 (bJ (p:=⟨p.b,p.o+off,p.sz,true⟩) (DE _ _ _) hroom (fun hne=> ?_) hceq ⟨o',hbo,ho',hco⟩))
    ·subst ho
     rw [L4]
     exact PZ hrun
    ·rw [hbo,hco (by omega)]
   ·have hm:0<m:=by omega
    have hne: ∀q',q=some q'→p.b≠q'.block:=by
     intro q' hq'
     subst hq'
     unfold St.got at hnew
     split at hnew
     ·rename_i n' e' hey
      rw [hey] at hyv
      obtain ⟨_,hh⟩:=hyv
      rw [hy] at hh;cases hh
     ·rename_i h' off' n' e' hey
      rw [hey] at hyv hsh
      obtain ⟨p',b',c',hp',hh,_,hb',_⟩:=hyv
      rw [hy] at hh
      cases hh
      have hm':m≠0:=by omega
      rw [if_neg hm'] at hnew
      split at hnew
      ·simp only [Option.bind_eq_some_iff] at hnew
       obtain ⟨ob',hob',hnew⟩:=hnew
       obtain ⟨j1,j2,j3,j4⟩:=NP hnew
       obtain rfl:q'=_:=Option.some.inj (hb' hm')
       have hcon':=hR.con h' p' ob' hp' hob'
       have hhne:h'≠h:=by
        intro hh
        subst hh
        simp only [Bool.or_eq_true,beq_iff_eq,bne_iff_ne,ne_eq,not_true_eq_false,decide_eq_true_eq,hm',false_or,or_false] at hsh
        have:=Nat.le_trans hsh (Nat.le_of_eq rfl)
        have hle:(n+m)*i.size≤c*i.size:=by omega
        exact hroom (Nat.le_of_mul_le_mul_right hle hsz)
       cases hpo:p'.own with
       | true=>intro hbb;exact hhne (hR.inj h' h p' p ob' ob hp' hp hob' hob hpo hown hbb.symm)
       | false=>
         rcases hcon'.2.2.2 hpo with hz | hz
         ·rw [hz] at j1
          have:0<m*i.size:=Nat.mul_pos hm hsz
          simp at j1;omega
         ·simp only;omega
      ·cases hnew
     ·cases hnew
    exact UG (us1:=us1) (cs1:=old) ho ht hi hzv hzs hsz hby hx hy h1 h2 (by omega) (fun hh=>by rw [hbo] at hh;cases hh) hlim hm
     (grown (s1:=s.put h none) hl1 hr1 rfl (hR.kill h) (Way.kill h) hs'.symm hv.symm)
 ·cases hg
theorem kN {o:Oper} {g:M1} {v:Value} {N:Act→World→Prop} {Q:Exit→Act→World→Prop} (hR:Rel C ρ s W) (hE:VRE ρ env a) (h:BC C.P env o=some (.mu g)) (hg:g s=some (v,s')) (hfree:TQ ρ s.n s'.n)
  (hN: ∀ρ' W' u,Rel C ρ' s' W'→Way ρ s W ρ' s' W'→VR ρ' v u→N (a.put o.dst u) W'):o.wp C.P a W N Q:=by
 obtain ⟨dst,op,type,pos,after,guard⟩:=o
 cases op
 case store t x y=>
  simp only [BC,Option.map_eq_some_iff,Stp.mu.injEq] at h
  obtain ⟨sz,hs,rfl⟩:=h
  obtain ⟨rfl,W',h1,h2,h3⟩:=kA hR hs hg (C3 hE x) (C3 hE y)
  unfold Oper.wp
  have hrun:(execOp a.eval ⟨dst, .store t x y,type,pos,after,guard⟩).run C.P W= .ok .skip W':=by simp [execOp,h1]
  rw [hrun]
  exact hN ρ W' undef h2 h3 ⟨#[],rfl,trivial⟩
 case call c=>
  obtain ⟨callee,args,argTypes⟩:=c
  simp only [BC] at h
  split at h
  ·split at h
   ·split at h <;> cases h
   ·cases h
  ·split at h
   ·split at h <;> cases h
   ·cases h
  ·split at h <;> cases h
  ·split at h
   ·rename_i t u x y hts has
    split at h
    ·rename_i htu
     simp only [beq_iff_eq] at htu
     subst htu
     split at h
     ·rename_i e ht
      simp only [Option.bind_eq_some_iff] at h
      obtain ⟨⟨z,sz,by'⟩,hz,h⟩:=h
      split at h
      ·rename_i hc
       simp only [Bool.and_eq_true,decide_eq_true_eq] at hc
       simp only [Option.some.injEq,Stp.mu.injEq] at h
       subst h
       have e1:argTypes= #[t,t]:=by cases argTypes;simp_all
       have e2:args= #[x,y]:=by cases args;simp_all
       subst e1;subst e2
       exact lK rfl hR hE ht hz hc.1 hc.2 hg hfree hN
      ·cases h
     ·cases h
    ·cases h
   ·cases h
  ·cases h
 case slice t x lo hi mx=>cases mx <;> simp only [BC] at h <;> (repeat' (split at h)) <;> simp [Option.map_eq_some_iff] at h
 all_goals (simp only [BC] at h;(repeat' (split at h)) <;> simp [Option.bind_eq_some_iff,Option.map_eq_some_iff] at h <;> (try (obtain ⟨_,_,h⟩:=h;(repeat' (split at h)) <;> simp at h)))
end
end Go.Proofs.Ytklmcfpgdfibnaa.Eng
namespace Go.Proofs.Ytklmcfpgdfibnaa.Eng
open Go Go.RowKit
set_option linter.unusedVariables false
set_option linter.unusedSimpArgs false
def B9 (C:Ctx):Stp→St→Value→St→Prop
 | .val x,s,v,s'=>v=x∧s'=s
 | .pure r,s,v,s'=>r=some v∧s'=s
 | .rd _ g,s,v,s'=>g s=some (v,s')
 | .al g,s,v,s'=>g s=some (v,s')
 | .mu g,s,v,s'=>g s=some (v,s')
 | .call f args,s,v,s'=>kI C f args s v s'
theorem IP {C:Ctx} {st:Stp} {K:Value→Q} {s:St}:KZ C st K s↔ ∃v s',B9 C st s v s'∧K v s':=by
 cases st with
 | val x=>exact ⟨fun h=>⟨x,s,⟨rfl,rfl⟩,h⟩,fun ⟨v,s',⟨h1,h2⟩,h⟩=>by subst h1;subst h2;exact h⟩
 | pure r=>exact ⟨fun ⟨v,h1,h⟩=>⟨v,s,⟨h1,rfl⟩,h⟩,fun ⟨v,s',⟨h1,h2⟩,h⟩=>by subst h2;exact ⟨v,h1,h⟩⟩
 | rd w g=>exact Iff.rfl
 | al g=>exact Iff.rfl
 | mu g=>exact Iff.rfl
 | call f args=>exact Iff.rfl
section
variable {C:Ctx} {ρ:Rho} {env:Env} {a:Act} {s s':St} {W:World}
theorem cJ {o:Oper} {f:FuncId} {args:List Value} {v:Value} {N:Act→World→Prop} {Q:Exit→Act→World→Prop} (hR:Rel C ρ s W) (hE:VRE ρ env a) (h:BC C.P env o=some (.call f args)) (hg:kI C f args s v s') (hfree:TQ ρ s.n s'.n)
  (hN: ∀ρ' W' u,Rel C ρ' s' W'→Way ρ s W ρ' s' W'→VR ρ' v u→N (a.put o.dst u) W'):o.wp C.P a W N Q:=by
 obtain ⟨dst,op,type,pos,after,guard⟩:=o
 cases op
 case call c=>
  obtain ⟨callee,as,argTypes⟩:=c
  simp only [BC] at h
  split at h
  ·rename_i f'
   split at h
   ·rename_i body hb
    split at h
    ·cases h
    ·rename_i hname
     simp only [Option.some.injEq,Stp.call.injEq] at h
     obtain ⟨rfl,rfl⟩:=h
     cases hf:C.P.funcs[f']? with
     | none=>simp [hf] at hb
     | some fn=>
       simp only [hf,Option.bind_some] at hb
       simp only [hf,Option.map_some,Option.getD_some] at hname
       have hrun:(execOp a.eval ⟨dst, .call {callee:= .value (.func f'),args:=as,argTypes:=argTypes},type,pos,after,guard⟩).run C.P W= .ok (.enter f' (as.toList.map a.eval).toArray) W:=by
        have hn : ¬ fn.name = "runtime.NumGoroutine" := by simpa using hname
        simp [execOp,resolve,Act.eval,Deferred.ofValue,invoke,callFunc,hf,hn,hb]
        apply Array.toList_inj.1;simp
       unfold Oper.wp
       rw [hrun]
       have hargs:EF (VR ρ) (as.toList.map (ev env)) (as.toList.map a.eval):=by
        generalize as.toList=l
        induction l with
        | nil=>trivial
        | cons x xs ih=>exact ⟨C3 hE x,ih⟩
       refine Calls.mono (hg.2 ρ W _ hfree hR hargs) fun e W' he=> ?_
       cases e with
       | returned u=>obtain ⟨ρ',h1,h2,h3⟩:=he;exact hN ρ' W' u h2 h1 h3
       | panicked ch=>exact he.elim
       | outgrown=>exact he.elim
   ·cases h
  ·(repeat' (split at h)) <;> cases h
  ·(repeat' (split at h)) <;> cases h
  ·split at h
   ·split at h
    ·split at h
     ·simp only [Option.bind_eq_some_iff] at h
      obtain ⟨_,_,h⟩:=h
      split at h <;> cases h
     ·cases h
    ·cases h
   ·cases h
  ·cases h
 case slice t x lo hi mx=>cases mx <;> simp only [BC] at h <;> (repeat' (split at h)) <;> simp [Option.map_eq_some_iff] at h
 all_goals (simp only [BC] at h;(repeat' (split at h)) <;> simp [Option.bind_eq_some_iff,Option.map_eq_some_iff] at h <;> (try (obtain ⟨_,_,h⟩:=h;(repeat' (split at h)) <;> simp at h)))
theorem SG {o:Oper} {st:Stp} {v:Value} {N:Act→World→Prop} {Q:Exit→Act→World→Prop} (hR:Rel C ρ s W) (hE:VRE ρ env a) (h:BC C.P env o=some st) (hg:B9 C st s v s') (hfree:TQ ρ s.n s'.n)
  (hN: ∀ρ' W' u,Rel C ρ' s' W'→Way ρ s W ρ' s' W'→VR ρ' v u→N (a.put o.dst u) W'):o.wp C.P a W N Q:=by
 cases st with
 | val x=>
   obtain ⟨rfl,rfl⟩:=hg
   obtain ⟨u,hu,hr⟩:=XH hE h
   exact (PY (hr W) (hN ρ W u hR Way.refl hu))
 | pure r=>
   obtain ⟨hr,rfl⟩:=hg
   obtain ⟨u,hu,hr⟩:=UW hE h hr
   exact (PY (hr W) (hN ρ W u hR Way.refl hu))
 | rd w g=>
   obtain ⟨rfl,u,hu,hr⟩:=bW (W:=W) (B0:=C.w0.heap.size) hE h hg fun x p ob _ h1 h2=>hR.con x p ob h1 h2
   exact (PY hr (hN ρ W u hR Way.refl hu))
 | al g=>
   obtain ⟨cells,cs,e,rfl,hc,_,hr⟩:=aU (ρ:=ρ) hE h hg
   obtain ⟨u,hu,hv⟩:=hr W
   obtain ⟨h1,h2⟩:=hR.alloc (hfree s.n (Nat.le_refl _) (by rw [St.G3];omega)) (W':=W.alloc (.cells cs e)) (cells:=cells) (cs:=cs) (e:=e) rfl rfl rfl rfl (fun j x hx=>by
    obtain ⟨y,hy,hr⟩:=IL j x hc hx
    exact ⟨y,by simpa using hy,hr⟩) (by rw [CZ hc];simp)
   exact (PY hu (hN _ _ u h1 h2 (hv _ (DE _ _ _))))
 | mu g=>exact kN hR hE h hg hfree hN
 | call f args=>exact (cJ hR hE h hg hfree hN)
theorem NC {ops:Array Oper} {j t:Nat} {b:Bool} (hd:C6 ops j=some t) (hv:a.tmps.getD t undef= .bool b):yielded ops a.tmps j=some b:=by
 unfold C6 at hd
 unfold yielded
 rw [hd]
 cases ht:a.tmps[t]? with
 | none=>simp [ht,undef] at hv
 | some x=>simp [ht] at hv;subst hv;simp [ht]
theorem P5 {ops:Array Oper} {j t:Nat} (hd:C6 ops j=some t) (hv:a.tmps.getD t undef=undef):yielded ops a.tmps j=none:=by
 unfold C6 at hd
 unfold yielded
 rw [hd]
 cases ht:a.tmps[t]? with
 | none=>simp [ht]
 | some x=>simp [ht] at hv;subst hv;simp [ht,undef]
theorem jK {ops:Array Oper} {o:Oper} {m:(Value→Q)→Q} {K:Value→Q} (hE:VRE ρ env a) (h:gdd ops env o m K s):
  (Region.wanted o (yielded ops a.tmps)=true∧m K s)∨(Region.wanted o (yielded ops a.tmps)=false∧K undef s):=by
 unfold gdd at h
 unfold Region.wanted
 cases hg:o.guard with
 | none=>simp only [hg] at h;exact .inl ⟨rfl,h⟩
 | some jw=>
   obtain ⟨j,want⟩:=jw
   simp only [hg] at h
   cases hd:C6 ops j with
   | none=>simp only [hd] at h
   | some t=>
     simp only [hd] at h
     have hv:=hE t
     rcases h with ⟨h1,h2⟩ | ⟨h1 | h1,h2⟩
     ·rw [h1] at hv
      exact .inl ⟨by simp [NC hd (IG hv)],h2⟩
     ·rw [h1] at hv
      exact .inr ⟨by simp [NC hd (IG hv)],h2⟩
     ·rw [h1] at hv
      have:a.tmps.getD t undef=undef:=by
       obtain ⟨us,hu,hus⟩:=hv
       rw [hu]
       cases us with | mk l=>cases l with
        | nil=>rfl
        | cons _ _=>exact hus.elim
      exact .inr ⟨by simp [P5 hd this],h2⟩
theorem aX:VR ρ undef undef:=⟨#[],rfl,trivial⟩
end
end Go.Proofs.Ytklmcfpgdfibnaa.Eng
namespace Go.Proofs.Ytklmcfpgdfibnaa.Eng
open Go Go.RowKit
set_option linter.unusedVariables false
set_option linter.unusedSimpArgs false
def Lin (m:(Value→Q)→Q):Prop:= ∀K s,m K s→ ∃v s',s.n≤s'.n∧K v s'∧ ∀K':Value→Q,K' v s'→m K' s
theorem xN {sz by':Nat} {x y:Value} {s s':St} {v:Value} (h:ap sz by' x y s=some (v,s')):s.n≤s'.n:=by
 unfold ap at h
 simp only [Option.bind_eq_some_iff] at h
 obtain ⟨new,_,h⟩:=h
 split at h
 ·split at h
  ·cases h;exact Nat.le_refl _
  ·obtain ⟨_,h⟩:=Option.ite_none_right_eq_some.1 h
   cases h;simp [St.G3]
 ·simp only [Option.bind_eq_some_iff] at h
  obtain ⟨ob,_,old,_,h⟩:=h
  obtain ⟨_,h⟩:=Option.ite_none_right_eq_some.1 h
  cases h;simp [St.G3,St.P1]
 ·cases h
theorem l5 {P:Program} {env:Env} {o:Oper} {st:Stp} {C:Ctx} {s s':St} {v:Value} (h:BC P env o=some st) (hg:B9 C st s v s'):s.n≤s'.n:=by
 cases st with
 | val x=>obtain ⟨_,rfl⟩:=hg;exact Nat.le_refl _
 | pure x=>obtain ⟨_,rfl⟩:=hg;exact Nat.le_refl _
 | call f as=>exact hg.1
 | rd w g=>
   have:s'=s:=by
    obtain ⟨dst,op,type,pos,after,guard⟩:=o
    cases op
    case load t x=>
     simp only [BC,Option.bind_eq_some_iff,Option.map_eq_some_iff,Stp.rd.injEq] at h
     obtain ⟨sz,hs,ag,ha,rfl,rfl⟩:=h
     simp only [B9,ld] at hg
     split at hg
     ·simp only [Option.bind_eq_some_iff] at hg
      obtain ⟨ob,_,cs,_,hg⟩:=hg
      split at hg
      ·cases hg;rfl
      ·split at hg <;> cases hg;rfl
     ·cases hg
    case convert src dst' x=>
     simp only [BC] at h
     split at h
     ·cases h
     ·split at h
      ·simp only [Option.some.injEq,Stp.rd.injEq] at h
       obtain ⟨rfl,rfl⟩:=h
       simp only [B9,b2s,Option.bind_eq_some_iff] at hg
       obtain ⟨cs,_,hg⟩:=hg
       split at hg <;> cases hg;rfl
      ·cases h
     ·cases h
    case slice t x lo hi mx=>cases mx <;> simp only [BC] at h <;> (repeat' (split at h)) <;> simp [Option.map_eq_some_iff] at h
    all_goals (simp only [BC] at h;(repeat' (split at h)) <;> simp [Option.bind_eq_some_iff,Option.map_eq_some_iff] at h <;> (try (obtain ⟨_,_,h⟩:=h;(repeat' (split at h)) <;> simp at h)))
   rw [this];exact Nat.le_refl _
 | al g=>
   have hE:VRE (fun _=>none) [] ⟨#[],[]⟩:=fun t=>trivial
   obtain ⟨dst,op,type,pos,after,guard⟩:=o
   cases op
   case alloc t=>
    simp only [BC,Option.map_eq_some_iff,Stp.al.injEq] at h
    obtain ⟨z,hz,rfl⟩:=h
    simp only [B9,al] at hg
    cases hg;simp [St.G3]
   case box t x=>
    simp only [BC,Option.some.injEq,Stp.al.injEq] at h
    subst h
    simp only [B9,bx] at hg
    split at hg <;> cases hg;simp [St.G3]
   case buildSlice t len parts=>
    simp only [BC] at h
    split at h
    ·simp only [Option.bind_eq_some_iff] at h
     obtain ⟨z,hz,h⟩:=h
     split at h
     ·simp only [Option.some.injEq,Stp.al.injEq] at h
      subst h
      simp only [B9,bs,Option.map_eq_some_iff] at hg
      obtain ⟨cs,_,hg⟩:=hg
      cases hg;simp [St.G3]
     ·cases h
    ·cases h
   case makeSlice t x y=>
    simp only [BC] at h
    split at h
    ·simp only [Option.bind_eq_some_iff] at h
     obtain ⟨z,hz,h⟩:=h
     split at h
     ·simp only [Option.some.injEq,Stp.al.injEq] at h
      subst h
      simp only [B9,mk] at hg
      split at hg
      ·split at hg <;> cases hg;simp [St.G3]
      ·cases hg
     ·cases h
    ·cases h
   case slice t x lo hi mx=>cases mx <;> simp only [BC] at h <;> (repeat' (split at h)) <;> simp [Option.map_eq_some_iff] at h
   all_goals (simp only [BC] at h;(repeat' (split at h)) <;> simp [Option.bind_eq_some_iff,Option.map_eq_some_iff] at h <;> (try (obtain ⟨_,_,h⟩:=h;(repeat' (split at h)) <;> simp at h)))
 | mu g=>
   obtain ⟨dst,op,type,pos,after,guard⟩:=o
   cases op
   case store t x y=>
    simp only [BC,Option.map_eq_some_iff,Stp.mu.injEq] at h
    obtain ⟨sz,hs,rfl⟩:=h
    simp only [B9,sto] at hg
    split at hg
    ·simp only [Option.bind_eq_some_iff] at hg
     obtain ⟨ob,_,hg⟩:=hg
     split at hg <;> cases hg;simp [St.P1]
    ·cases hg
   case call c=>
    obtain ⟨callee,args,argTypes⟩:=c
    simp only [BC] at h
    split at h
    ·split at h
     ·split at h <;> cases h
     ·cases h
    ·split at h
     ·split at h <;> cases h
     ·cases h
    ·split at h <;> cases h
    ·split at h
     ·split at h
      ·split at h
       ·simp only [Option.bind_eq_some_iff] at h
        obtain ⟨z,hz,h⟩:=h
        split at h
        ·simp only [Option.some.injEq,Stp.mu.injEq] at h
         subst h
         exact xN hg
        ·cases h
       ·cases h
      ·cases h
     ·cases h
    ·cases h
   case slice t x lo hi mx=>cases mx <;> simp only [BC] at h <;> (repeat' (split at h)) <;> simp [Option.map_eq_some_iff] at h
   all_goals (simp only [BC] at h;(repeat' (split at h)) <;> simp [Option.bind_eq_some_iff,Option.map_eq_some_iff] at h <;> (try (obtain ⟨_,_,h⟩:=h;(repeat' (split at h)) <;> simp at h)))
theorem fE {C:Ctx} {P:Program} {env:Env} {o:Oper} {st:Stp} (h:BC P env o=some st):Lin (KZ C st):=by
 intro K s hk
 obtain ⟨v,s',hg,hk⟩:=IP.1 hk
 exact ⟨v,s',l5 h hg,hk,fun K' hk'=>IP.2 ⟨v,s',hg,hk'⟩⟩
theorem iI {ops:Array Oper} {env:Env} {o:Oper} {m:(Value→Q)→Q} (h:Lin m):Lin (gdd ops env o m):=by
 intro K s hk
 unfold gdd at hk ⊢
 cases hg:o.guard with
 | none=>simp only [hg] at hk ⊢;exact h K s hk
 | some jw=>
   obtain ⟨j,want⟩:=jw
   simp only [hg] at hk ⊢
   cases hd:C6 ops j with
   | none=>simp only [hd] at hk
   | some t=>
     simp only [hd] at hk ⊢
     rcases hk with ⟨h1,h2⟩ | ⟨h1,h2⟩
     ·obtain ⟨v,s',hn,hv,hr⟩:=h K s h2
      exact ⟨v,s',hn,hv,fun K' hk'=> .inl ⟨h1,hr K' hk'⟩⟩
     ·exact ⟨undef,s,Nat.le_refl _,h2,fun K' hk'=> .inr ⟨h1,hk'⟩⟩
def xG (m:Kap→Q):Prop:= ∀κ s,m κ s→ ∃e env s',s.n≤s'.n∧κ e env s'∧ ∀κ':Kap,κ' e env s'→m κ' s
def u9 (m:(Env→Q)→Q):Prop:= ∀K s,m K s→ ∃env s',s.n≤s'.n∧K env s'∧ ∀K':Env→Q,K' env s'→m K' s
theorem P8 {C:Ctx} {ops:Array Oper}: ∀(l:List Oper) (env:Env),u9 (OJ C ops l env)
 | [],env,K,s,h=>⟨env,s,Nat.le_refl _,h,fun K' h'=>h'⟩
 | o::r,env,K,s,h=>by
   simp only [OJ] at h ⊢
   have hl:Lin (X3 C env o):=by
    unfold X3
    cases hop:BC C.P env o with
    | none=>intro K s h;exact h.elim
    | some st=>exact fE hop
   obtain ⟨v,s1,hn,h1,h2⟩:=iI (ops:=ops) (env:=env) (o:=o) hl _ s h
   obtain ⟨env',s',hn',h3,h4⟩:=P8 r _ K s1 h1
   exact ⟨env',s',Nat.le_trans hn hn',h3,fun K' hk'=>h2 _ (h4 K' hk')⟩
theorem JZ {C:Ctx} {ops:Array Oper} {L:List Nat}: ∀(l:List Oper) (i:Nat) (env:Env) (past:List (Nat×Value)) (pend:List (Nat×St×St)),u9 (B3 C ops L i l env past pend)
 | [],i,env,past,pend,K,s,h=>⟨env,s,Nat.le_refl _,h,fun K' h'=>h'⟩
 | o::r,i,env,past,pend,K,s,h=>by
   simp only [B3] at h ⊢
   cases hop:BC C.P env o with
   | none=>rw [hop] at h;exact h.elim
   | some st=>
     rw [hop] at h
     have hst:=fE (C:=C) hop
     have fin: ∀{m:(Value→Q)→Q} {past':Value→List (Nat×Value)} {pend':List (Nat×St×St)},Lin m→(gdd ops env o m fun v=>B3 C ops L (i+1) r (FA o.dst v env) (past' v) pend' K) s→
       ∃env' s',s.n≤s'.n∧K env' s'∧ ∀K':Env→Q,K' env' s'→(gdd ops env o m fun v=>B3 C ops L (i+1) r (FA o.dst v env) (past' v) pend' K') s:=by
      intro m past' pend' hm h
      obtain ⟨v,s1,hn,h1,h2⟩:=iI (ops:=ops) (env:=env) (o:=o) hm _ s h
      obtain ⟨env',s',hn',h3,h4⟩:=JZ r (i+1) _ _ _ K s1 h1
      exact ⟨env',s',Nat.le_trans hn hn',h3,fun K' hk'=>h2 _ (h4 K' hk')⟩
     have finM:(hM:(match MM C.P L i 0 ops.toList with
      | false=>gdd ops env o (KZ C st) fun v=>B3 C ops L (i+1) r (FA o.dst v env) past pend K
      | true=>match o.guard with
        | some (j,want)=>(match C6 ops j with
          | some t=>gN (lk env t) want (mon (CV L i past) (KZ C st)) fun v a b=>B3 C ops L (i+1) r (FA o.dst v env) past ((i,a,b)::pend) K
          | none=>fun _=>False)
        | none=>mon (CV L i past) (KZ C st) fun v a b=>B3 C ops L (i+1) r (FA o.dst v env) past ((i,a,b)::pend) K:Q) s)→
        ∃env' s',s.n≤s'.n∧K env' s'∧ ∀K':Env→Q,K' env' s'→(match MM C.P L i 0 ops.toList with
      | false=>gdd ops env o (KZ C st) fun v=>B3 C ops L (i+1) r (FA o.dst v env) past pend K'
      | true=>match o.guard with
        | some (j,want)=>(match C6 ops j with
          | some t=>gN (lk env t) want (mon (CV L i past) (KZ C st)) fun v a b=>B3 C ops L (i+1) r (FA o.dst v env) past ((i,a,b)::pend) K'
          | none=>fun _=>False)
        | none=>mon (CV L i past) (KZ C st) fun v a b=>B3 C ops L (i+1) r (FA o.dst v env) past ((i,a,b)::pend) K':Q) s:=by
      intro h
      have hmon: ∀{k},mon (CV L i past) (KZ C st) k s→ ∃v s1,s.n≤s1.n∧k v s s1 s1∧ ∀k':Value→St→St→Q,k' v s s1 s1→mon (CV L i past) (KZ C st) k' s:=by
       intro k hk
       obtain ⟨v,s1,hn,h1,h2⟩:=hst _ s hk
       exact ⟨v,s1,hn,h1.2,fun k' hk'=>h2 _ ⟨h1.1,hk'⟩⟩
      cases hm:MM C.P L i 0 ops.toList with
      | false=>rw [hm] at h;exact fin (past':=fun _=>past) hst h
      | true=>
        rw [hm] at h
        cases hg:o.guard with
        | none=>
          rw [hg] at h
          obtain ⟨v,s1,hn,h1,h2⟩:=hmon h
          obtain ⟨env',s',hn',h3,h4⟩:=JZ r (i+1) _ _ _ K s1 h1
          exact ⟨env',s',Nat.le_trans hn hn',h3,fun K' hk'=>h2 _ (h4 K' hk')⟩
        | some jw=>
          obtain ⟨j,want⟩:=jw
          rw [hg] at h
          cases hd:C6 ops j with
          | none=>simp only [hd] at h
          | some t=>
            simp only [hd] at h ⊢
            rcases h with ⟨g1,g2⟩ | ⟨g1,g2⟩
            ·obtain ⟨v,s1,hn,h1,h2⟩:=hmon g2
             obtain ⟨env',s',hn',h3,h4⟩:=JZ r (i+1) _ _ _ K s1 h1
             exact ⟨env',s',Nat.le_trans hn hn',h3,fun K' hk'=> .inl ⟨g1,h2 _ (h4 K' hk')⟩⟩
            ·obtain ⟨env',s',hn',h3,h4⟩:=JZ r (i+1) _ _ _ K s g2
             exact ⟨env',s',hn',h3,fun K' hk'=> .inr ⟨g1,h4 K' hk'⟩⟩
     cases st with
     | rd w g=>
       refine fin (past':=fun _=>(i,w)::past) ?_ h
       have hst':Lin (mm g):=hst
       unfold lA
       cases CV L i pend with
       | nil=>exact hst'
       | cons x xs=>
         intro K s hk
         obtain ⟨v,s',hn,hv,hr⟩:=hst' K s hk.2
         exact ⟨v,s',hn,hv,fun K' hk'=>⟨hk.1,hr K' hk'⟩⟩
     | al g=>exact fin (past':=fun v=>(i,v)::past) hst h
     | val v=>exact fin (past':=fun _=>past) hst h
     | pure x=>exact fin (past':=fun _=>past) hst h
     | mu g=>exact finM h
     | call f as=>exact finM h
theorem R9 {F:(List Value→Q)→List Value→Q} (hm: ∀R R':List Value→Q,(∀xs s,R xs s→R' xs s)→ ∀xs s,F R xs s→F R' xs s) {xs:List Value} {s:St} (h:F (WZ F) xs s):WZ F xs s:=
 fun R hR=>hR xs s (hm (WZ F) R (fun ys t ht=>ht R hR) xs s h)
theorem F5 {C:Ctx} {an:List (Nat×List Nat)} {rm nt:Nat}: ∀(c:Code) (env:Env) (lo:Nat) (exs:List (Nat×Nat)),xG (exec C an rm nt c env lo exs)
 | .skip,env,lo,exs,κ,s,h=>⟨.nor,env,s,Nat.le_refl _,h,fun κ' h'=>h'⟩
 | .region _ ops false,env,lo,exs,κ,s,h=>by
   obtain ⟨env',s',hn,h1,h2⟩:=P8 ops.toList env _ s h
   exact ⟨.nor,env',s',hn,h1,fun κ' h'=>h2 _ h'⟩
 | .region id ops true,env,lo,exs,κ,s,h=>by
   simp only [exec] at h ⊢
   cases hl:Z8 an id with
   | none=>rw [hl] at h;exact h.elim
   | some L=>
     rw [hl] at h
     cases hd:ND L ops 0 ops.toList with
     | false=>simp only [hd] at h
     | true=>
       simp only [hd] at h ⊢
       obtain ⟨env',s',hn,h1,h2⟩:=JZ ops.toList 0 env [] [] _ s h
       exact ⟨.nor,env',s',hn,h1,fun κ' h'=>h2 _ h'⟩
 | .seq a b,env,lo,exs,κ,s,h=>by
   simp only [exec] at h ⊢
   cases he:Nat.ble (ends a) 1 with
   | true=>
     rw [he] at h
     obtain ⟨e,env1,s1,hn,h1,h2⟩:=F5 a env _ _ _ s h
     cases e with
     | nor=>
       obtain ⟨e,env2,s2,hn',h3,h4⟩:=F5 b env1 _ _ _ s1 h1
       exact ⟨e,env2,s2,Nat.le_trans hn hn',h3,fun κ' h'=>h2 _ (h4 κ' h')⟩
     | ext i=>exact ⟨.ext i,env1,s1,hn,h1,fun κ' h'=>h2 _ h'⟩
     | rt=>exact ⟨.rt,env1,s1,hn,h1,fun κ' h'=>h2 _ h'⟩
   | false=>
     rw [he] at h
     simp only [fN] at h ⊢
     obtain ⟨e,env1,s1,hn,h1,h2⟩:=F5 a env _ _ _ s h
     cases e with
     | nor=>
       obtain ⟨e,env2,s2,hn',h3,h4⟩:=F5 b _ _ _ _ s1 h1
       exact ⟨e,env2,s2,Nat.le_trans hn hn',h3,fun κ' h'=>h2 _ (h4 κ' h')⟩
     | ext i=>exact ⟨.ext i,env1,s1,hn,h1,fun κ' h'=>h2 _ h'⟩
     | rt=>exact ⟨.rt,env1,s1,hn,h1,fun κ' h'=>h2 _ h'⟩
 | .cond c x y,env,lo,exs,κ,s,h=>by
   simp only [exec] at h ⊢
   rcases h with ⟨g,h⟩ | ⟨g,h⟩
   ·obtain ⟨e,env1,s1,hn,h1,h2⟩:=F5 x env _ _ _ s h
    exact ⟨e,env1,s1,hn,h1,fun κ' h'=> .inl ⟨g,h2 κ' h'⟩⟩
   ·obtain ⟨e,env1,s1,hn,h1,h2⟩:=F5 y env _ _ _ s h
    exact ⟨e,env1,s1,hn,h1,fun κ' h'=> .inr ⟨g,h2 κ' h'⟩⟩
 | .block id c,env,lo,exs,κ,s,h=>by
   simp only [exec] at h ⊢
   obtain ⟨e,env1,s1,hn,h1,h2⟩:=F5 c env _ _ _ s h
   cases e with
   | nor=>exact ⟨.nor,env1,s1,hn,h1,fun κ' h'=>h2 _ h'⟩
   | ext i=>
     simp only [m4] at h1
     cases hi:Nat.beq i id with
     | true=>rw [hi] at h1;exact ⟨.nor,env1,s1,hn,h1,fun κ' h'=>h2 _ (by simp only [m4,hi];exact h')⟩
     | false=>rw [hi] at h1;exact ⟨.ext i,env1,s1,hn,h1,fun κ' h'=>h2 _ (by simp only [m4,hi];exact h')⟩
   | rt=>exact ⟨.rt,env1,s1,hn,h1,fun κ' h'=>h2 _ h'⟩
 | .loop c,env,lo,exs,κ,s,h=>by
   simp only [exec] at h ⊢
   refine h (fun xs s=> ∃e env' s',s.n≤s'.n∧κ e env' s'∧ ∀κ':Kap,κ' e env' s'→WZ (fun self xs=>exec C an rm nt c (inj (bitsOf (live rm c (live rm c 0 exs) exs) nt) 0 xs) (live rm c (live rm c 0 exs) exs) exs (XC (fun env'=>self (proj (bitsOf (live rm c (live rm c 0 exs) exs) nt) env')) κ')) xs s) fun xs s hF=> ?_
   obtain ⟨e,env1,s1,hn,h1,h2⟩:=F5 c _ _ _ _ s hF
   have hmono: ∀κ':Kap, ∀R R':List Value→Q,(∀xs s,R xs s→R' xs s)→ ∀xs s,exec C an rm nt c (inj (bitsOf (live rm c (live rm c 0 exs) exs) nt) 0 xs) (live rm c (live rm c 0 exs) exs) exs (XC (fun env'=>R (proj (bitsOf (live rm c (live rm c 0 exs) exs) nt) env')) κ') s→
     exec C an rm nt c (inj (bitsOf (live rm c (live rm c 0 exs) exs) nt) 0 xs) (live rm c (live rm c 0 exs) exs) exs (XC (fun env'=>R' (proj (bitsOf (live rm c (live rm c 0 exs) exs) nt) env')) κ') s:=by
    intro κ' R R' hr xs s hx
    obtain ⟨e,env1,s1,hn,h1,h2⟩:=F5 c _ _ _ _ s hx
    refine h2 _ ?_
    cases e with
    | nor=>exact hr _ _ h1
    | ext i=>exact h1
    | rt=>exact h1
   cases e with
   | nor=>
     obtain ⟨e,env2,s2,hn',h3,h4⟩:=h1
     exact ⟨e,env2,s2,Nat.le_trans hn hn',h3,fun κ' h'=>R9 (hmono κ') (h2 _ (h4 κ' h'))⟩
   | ext i=>exact ⟨.ext i,env1,s1,hn,h1,fun κ' h'=>R9 (hmono κ') (h2 _ h')⟩
   | rt=>exact ⟨.rt,env1,s1,hn,h1,fun κ' h'=>R9 (hmono κ') (h2 _ h')⟩
 | .exit id,env,lo,exs,κ,s,h=>⟨.ext id,env,s,Nat.le_refl _,h,fun κ' h'=>h'⟩
 | .ret,env,lo,exs,κ,s,h=>⟨.rt,env,s,Nat.le_refl _,h,fun κ' h'=>h'⟩
 | .rangeFunc ..,env,lo,exs,κ,s,h=>h.elim
 | .scope ..,env,lo,exs,κ,s,h=>h.elim
 | .label ..,env,lo,exs,κ,s,h=>h.elim
 | .goto ..,env,lo,exs,κ,s,h=>h.elim
 | .refuse ..,env,lo,exs,κ,s,h=>h.elim
theorem Y1 {ag:Bool} {sz:Nat} {x v:Value} {s s':St} (hg:ld ag sz x s=some (v,s')):s'=s:=by
 unfold ld at hg
 split at hg
 ·simp only [Option.bind_eq_some_iff] at hg
  obtain ⟨ob,_,cs,_,hg⟩:=hg
  split at hg
  ·cases hg;rfl
  ·split at hg <;> cases hg;rfl
 ·cases hg
theorem YH {C:Ctx}: ∀(rs:List ResultVar) (acc:List Value) (env:Env),Lin (K5 C.P rs acc env)
 | [],[],env,K,s,h=>⟨_,s,Nat.le_refl _,h.2,fun K' h'=>⟨h.1,h'⟩⟩
 | [],[v],env,K,s,h=>⟨_,s,Nat.le_refl _,h,fun K' h'=>h'⟩
 | [],u::v::l,env,K,s,h=>⟨_,s,Nat.le_refl _,h.2,fun K' h'=>⟨h.1,h'⟩⟩
 | .tmp t::r,acc,env,K,s,h=>YH r _ env K s h
 | .cell a t::r,acc,env,K,s,h=>by
   simp only [K5] at h ⊢
   cases hs:szT C.P t with
   | none=>rw [hs] at h;exact h.elim
   | some sz=>
     cases ha:WQ C.P t with
     | none=>rw [hs,ha] at h;exact h.elim
     | some ag=>
       rw [hs,ha] at h
       obtain ⟨v,s1,hg,h⟩:=h
       have hs1:=Y1 hg
       subst hs1
       obtain ⟨u,s2,hn,hu,hr⟩:=YH r _ env K _ h
       exact ⟨u,s2,hn,hu,fun K' h'=>⟨v,_,hg,hr K' h'⟩⟩
end Go.Proofs.Ytklmcfpgdfibnaa.Eng
namespace Go.Proofs.Ytklmcfpgdfibnaa.Eng
open Go Go.RowKit
set_option linter.unusedVariables false
set_option linter.unusedSimpArgs false
structure Start where
 nt:Nat
 top:Nat
 ρ:Rho
 s:St
 W:World
structure PL (C:Ctx) (B:Start) (ρ:Rho) (s:St) (W:World) (env:Env) (a:Act):Prop where
 rel:Rel C ρ s W
 vre:VRE ρ env a
 size:a.tmps.size=B.nt
 defers:a.defers=[]
 way:Way B.ρ B.s B.W ρ s W
 free:TQ ρ s.n B.top
def KS (C:Ctx) (B:Start) (Z:Act→World→Prop) (k:Env→Q):Prop:=
 (∀env s,k env s→s.n≤B.top)∧ ∀env s ρ W a,k env s→PL C B ρ s W env a→Z a W
theorem RT (a:Act) (d:Option Tmp) (v:Value):(a.put d v).tmps.size=a.tmps.size:=by cases d <;> simp [Act.put]
theorem LL (a:Act) (d:Option Tmp) (v:Value):(a.put d v).defers=a.defers:=by cases d <;> rfl
section
variable {C:Ctx} {B:Start}
theorem Way.free {ρ ρ':Rho} {s s':St} {W W':World} {top:Nat} (hw:Way ρ s W ρ' s' W') (h:TQ ρ s.n top):TQ ρ' s'.n top:=fun x h1 h2=>by
 have:=hw.n
 rw [hw.agree x (.inr h1)];exact h x (by omega) h2
theorem PL.step {ρ ρ':Rho} {s s':St} {W W':World} {env:Env} {a:Act} {d:Option Tmp} {v u:Value} (h:PL C B ρ s W env a) (hR:Rel C ρ' s' W') (hw:Way ρ s W ρ' s' W') (hv:VR ρ' v u) (hd: ∀t,d=some t→t<B.nt):
  PL C B ρ' s' W' (FA d v env) (a.put d u):=
 ⟨hR,qJ (mG hw.sub h.vre) hv fun t ht=>by rw [h.size];exact hd t ht,by rw [RT,h.size],by rw [LL,h.defers],h.way.trans hw,hw.free h.free⟩
theorem VE {nt:Nat} {ops:Array Oper} (h:VU nt ops=true) {i:Nat} {o:Oper} (ho:ops[i]? =some o): ∀t,o.dst=some t→t<nt:=by
 intro t ht
 have:=Array.all_eq_true_iff_forall_mem.1 h o (Array.mem_of_getElem? ho)
 simp only [ht] at this
 exact Nat.le_of_ble_eq_true this
theorem NB {ops:Array Oper} {Q:Exit→Act→World→Prop} {K:Env→Eng.Q} (hfit:VU B.nt ops=true) (hk:KS C B (Q .normal) K):
  ∀(l:List Oper) (k:Nat),ops.toList.drop k=l→ ∀env s ρ W a,OJ C ops l env K s→PL C B ρ s W env a→wpOps C.P ops Q (List.range' k l.length) a W
 | [],k,_,env,s,ρ,W,a,h,hh=>hk.2 env s ρ W a h hh
 | o::r,k,hdrop,env,s,ρ,W,a,h,hh=>by
   have hget:ops[k]? =some o:=by
    have:(ops.toList.drop k)[0]? =some o:=by rw [hdrop];rfl
    simpa using this
   have hdrop':ops.toList.drop (k+1)=r:=by
    have:(ops.toList.drop k).drop 1=r:=by rw [hdrop];rfl
    rwa [List.drop_drop] at this
   have hd:=VE hfit hget
   simp only [OJ] at h
   simp only [List.length_cons,List.range'_succ,wpOps,hget]
   rcases jK hh.vre h with ⟨hw,h⟩ | ⟨hw,h⟩
   ·simp only [hw,if_true]
    unfold X3 at h
    cases hop:BC C.P env o with
    | none=>rw [hop] at h;exact h.elim
    | some st=>
      rw [hop] at h
      obtain ⟨v,s',hg,h⟩:=IP.1 h
      have htop:s'.n≤B.top:=by
       obtain ⟨env',s2,hn,h2,_⟩:=P8 r _ K s' h
       exact Nat.le_trans hn (hk.1 _ _ h2)
      exact .inl <| SG hh.rel hh.vre hop hg (fun x h1 h2=>hh.free x h1 (Nat.lt_of_lt_of_le h2 htop)) (fun ρ' W' u hR hw hv=>NB hfit hk r (k+1) hdrop' _ _ _ _ _ h (hh.step hR hw hv hd))
   ·simp only [hw,Bool.false_eq_true,if_false]
    exact NB hfit hk r (k+1) hdrop' _ _ _ _ _ h (hh.step hh.rel Way.refl aX hd)
end
end Go.Proofs.Ytklmcfpgdfibnaa.Eng
