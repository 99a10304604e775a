/- The pure engine: the code's meaning over trees. -/
import Derived.Test.YtmikdglafmfnfaaEngPa
namespace Go.Proofs.Ytmikdglafmfnfaa.Eng
open Go Go.RowKit
set_option linter.unusedVariables false
def pickAv (c : Operand) (w : Bool) (av : List (Nat × Bool)) : List (Nat × Bool) := match c with
  | .tmp t => (t, w) :: av
  | _ => av
def optV (av : List (Nat × Bool)) (env : Env2) : Option Operand → Option (Option Value)
  | none => some none
  | some x => (valOf (ev2 av env x)).map some
def baseE : E0 → Option (Nat × List Nat × Nat)
  | .t k _ => some (k, [], 0)
  | .s k pre off _ _ => some (k, pre, off)
  | .n k pre _ => some (k, pre, 0)
  | _ => none
def isZ : E0 → Bool
  | .z => true
  | _ => false
def szE : E0 → Nat
  | .t _ e => e
  | .s _ _ _ _ e => e
  | .n _ _ e => e
  | _ => 0
def elemE (x : E0) (sz : Nat) (j : Value) : EV := match x with
  | .t k _ => .o (.e k [] (natOf j * sz))
  | .n k pre _ => .o (.e k pre (natOf j * sz))
  | .s k pre off _ _ => .o (.e k pre (off + natOf j * sz))
  | _ => .o .w
def partE (x : E0) (sz : Nat) (l m : Value) : EV := match x with
  | .t k _ => .o (.s k [] (natOf l * sz) (natOf m) sz)
  | .n k pre _ => .o (.s k pre (natOf l * sz) (natOf m) sz)
  | .s k pre off _ _ => .o (.s k pre (off + natOf l * sz) (natOf m) sz)
  | _ => .o .z
def two (a b : Value) : Value := .tuple #[a, b]
def fst2 : Value → Value
  | .tuple ⟨[a, _]⟩ => a
  | x => x
def snd2 : Value → Value
  | .tuple ⟨[_, b]⟩ => b
  | x => x
/-- The base of an append: its cells, the objects without it, its number. -/
def apBase (ob : Obs) (sz : Nat) : E0 → Option (List T × Nat × Obs × List Nat)
  | .z => some ([], 0, ob, [])
  | .t k e => match Nat.beq e sz, lookO ob k with
    | true, some (.ls true c) => some (c, cnt e c, delO ob k, [k])
    | _, _ => none
  | .s k [] off n e => match Nat.beq e sz, lookO ob k with
    | true, some (.ls true c) => some (sub2 c [] off (n * sz), n, delO ob k, [k])
    | _, _ => none
  | _ => none
def apPart (ro : List (List T)) (ob : Obs) (ks : List CK) (x : E0) (sz : Nat) : Option (List T × Obs) := match onlyC ks with
  | true => (contE ro ob x sz).map fun c => (c, ob)
  | false => match x with
    | .z => some ([], ob)
    | .t k e => match Nat.beq e sz, lookO ob k with
      | true, some (.ls true c) => some (c, delO ob k)
      | _, _ => none
    | _ => none
def cellsLn (ks : List CK) (sz : Nat) : Bool := Nat.beq ks.length sz
def storeK (ob : Obs) (nk k : Nat) (pre : List Nat) (off : Nat) (ks : List CK) (v : EV) : Option R2 := match ks, v, lookO ob k with
  | [.c], .o (.v a), some (.ls true cs) => some (.fr [k] [] fun K => stc cs pre off a fun cs' => K (setO ob k (.ls true cs')) nk (.o .w))
  | ks, v, _ => (cells2 v).bind fun xs => (toT ks xs ob).bind fun p => match lookO p.2 k with
    | some (.ls true cs) => some (.fr [k] [k] fun K => stg cs pre off p.1 fun cs' => K (killO [k] (setO p.2 k (.ls true cs'))) nk (.o .w))
    | _ => none
def callE (C : Ctx) (ro : List (List T)) (ob : Obs) (nk : Nat) (f : FuncId) (g : Sg) (as : List EV) : Option R2 := (argP ro ob g.ps as).bind fun ar => match okSg g && nodupN ar.mu && apartN ar.mu ar.rd with
  | false => none
  | true => match allV g.rs && ar.mu.isEmpty && g.bs.isEmpty with
    | true => some (.wd (fun K => cl2 C f g ar.vs ar.cs fun vs' cs' => K (nx vs' 0)) val1)
    | false => some (.fr ar.mu ar.mu fun K => cl2 C f g ar.vs ar.cs fun vs' cs' =>
        let sl := ar.sl.map (killE ar.mu)
        let r := resV sl vs' cs' g.rs (delM (csOf g.ps) ar.sl ob) nk 0 0
        let b := resB sl vs' cs' g.ps as g.bs r.ob r.nk r.i r.j
        K (killO ar.mu (resMu ro cs' (csOf g.ps) ar.sl b.ob b.j)) b.nk (bundE r.ys))
def knownP (ro : List (List T)) (ob : Obs) : E0 → Bool
  | .p k _ => match lookO ob k with
    | some (.bx _) => true
    | _ => false
  | .e k _ _ => match look2 ro ob k with
    | some (.ls _ _) => true
    | _ => false
  | _ => false
def addO (x : E0) (n : Nat) : E0 := match x with
  | .p k off => .p k (off + n)
  | .e k pre off => .e k pre (off + n)
  | x => x
def op2 (C : Ctx) (sgs : List (Nat × Sg)) (ro : List (List T)) (ob : Obs) (nk : Nat) (av : List (Nat × Bool)) (env : Env2) (o : Oper) : Option R2 := match o.op with
  | .move x | .assign x => some (.ev (ev2 av env x))
  | .pick c a b => (valOf (ev2 av env c)).bind fun cv => (valOf (ev2 (pickAv c true av) env a)).bind fun x => (valOf (ev2 (pickAv c false av) env b)).map fun y => .wd (prP (pk cv x y)) val1
  | .alloc t => (zeroT C.P t).map fun z => .st [] ((nk, .bx (z.1.map cE0)) :: ob) (nk + 1) (.o (.p nk 0))
  | .box _ x => (cells2 (ev2 av env x)).map fun xs => .st [] ((nk, .bx xs) :: ob) (nk + 1) (.o (.p nk 0))
  | .build t parts => (zeroT C.P t).bind fun z => match C.P.underlying t with
    | some (.struct fields) => if fieldsOk C.P fields then (partsX C.P av env fields parts.toList).bind fun ps => (fillX (z.1.map cE0) ps).map fun xs => .ev (.g xs) else none
    | _ => none
  | .buildSlice t len parts => match C.P.underlying t with
    | some (.slice e) => (zeroT C.P e).bind fun z => (kindsT C.P 8 e).bind fun ks => (zTs ks z.1).bind fun zt => if 0 < z.2.1 && len * z.2.1 ≤ 2 ^ 24 && cellsLn ks z.2.1 then
        (partsY av env z.2.1 parts.toList).bind fun ps => (fillT ks ps (repT len zt) ob).map fun p => .st [] ((nk, .ls true p.1) :: p.2) (nk + 1) (.o (.t nk z.2.1)) else none
    | _ => none
  | .load t a => (szT C.P t).bind fun sz => (aggT C.P t).bind fun ag => match ev2 av env a with
    | .o (.p k off) => match lookO ob k with
      | some (.bx xs) => match Nat.beq ((xs.drop off).take sz).length sz && Nat.blt 0 sz with
        | true => match ag with
          | true => some (.ev (.g ((xs.drop off).take sz)))
          | false => match (xs.drop off).take sz with
            | [x] => some (.ev (.o x))
            | _ => none
        | false => none
      | _ => none
    | .o (.e k pre off) => match look2 ro ob k with
      | some (.ls _ cs) => (kindsT C.P 8 t).bind fun ks => match cellsLn ks sz && Nat.blt 0 sz with
        | true => match ag with
          | false => loadK cs k pre off ks false
          | true => some (.fr [] [] fun K => ldg cs pre off ks fun ts => K ob nk (.g (mkG k pre off ts ks 0)))
        | false => none
      | _ => none
    | _ => none
  | .store t a v => (szT C.P t).bind fun sz => match ev2 av env a with
    | .o (.p k off) => match lookO ob k with
      | some (.bx xs) => (cells2 (ev2 av env v)).bind fun ys => match Nat.beq ys.length sz && Nat.ble (off + sz) xs.length with
        | true => some (.st [k] (setO ob k (.bx (xs.take off ++ (ys ++ xs.drop (off + ys.length))))) nk (.o .w))
        | false => none
      | _ => none
    | .o (.e k pre off) => (kindsT C.P 8 t).bind fun ks => match cellsLn ks sz && Nat.blt 0 sz with
      | true => storeK ob nk k pre off ks (ev2 av env v)
      | false => none
    | _ => none
  | .nilCheck x => match ev2 av env x with
    | .o y => match knownP ro ob y with
      | true => some (.ev (.o y))
      | false => none
    | _ => none
  | .binOp op t x y _ => match C.P.underlying t with
    | some (.int _) => (valOf (ev2 av env x)).bind fun a => (valOf (ev2 av env y)).map fun b => .wd (prP (bnI op a b)) val1
    | some .string => (valOf (ev2 av env x)).bind fun a => (valOf (ev2 av env y)).map fun b => .wd (prP (bnS op a b)) val1
    | some .bool => (valOf (ev2 av env x)).bind fun a => (valOf (ev2 av env y)).map fun b => .wd (prP (bnB op a b)) val1
    | some (.struct _) => match ev2 av env x, ev2 av env y with
      | .g xs, .g ys => (valsE xs).bind fun a => (valsE ys).map fun b => .wd (prP (bnA C.P op t (.agg a.toArray) (.agg b.toArray))) val1
      | _, _ => none
    | _ => none
  | .unOp op _ x => (valOf (ev2 av env x)).map fun a => .wd (prP (un op a)) val1
  | .convert src dst x => match C.P.underlying src, C.P.underlying dst with
    | some (.int _), some (.int k) => (valOf (ev2 av env x)).map fun a => .wd (prP (cvI k a)) val1
    | some (.slice e), some .string => match C.P.underlying e, ev2 av env x with
      | some (.int .u8), .o y => (contE ro ob y 1).map fun c => .wd (prP (b2T c)) val1
      | _, _ => none
    | _, _ => none
  | .makeSlice t l c => match C.P.underlying t with
    | some (.slice e) => (zeroT C.P e).bind fun z => (kindsT C.P 8 e).bind fun ks => (zTs ks z.1).bind fun zt => if 0 < z.2.1 && 0 < z.2.2 && cellsLn ks z.2.1 then
        (valOf (ev2 av env l)).bind fun a => (valOf (ev2 av env c)).map fun b => .fr [] [] fun K => mkW z.2.2 a b fun n => K ((nk, .ls true (repT (natOf n) zt)) :: ob) (nk + 1) (.o (.t nk z.2.1)) else none
    | _ => none
  | .slice t x lo hi none => match C.P.underlying t with
    | some .string => (valOf (ev2 av env x)).bind fun a => (optV av env lo).bind fun l => (optV av env hi).map fun h => .wd (prP (scS a l h)) val1
    | some (.slice e) => (szT C.P e).bind fun sz => match ev2 av env x with
      | .o y => (lenE ro ob y).bind fun n => (contE ro ob y (szE y)).bind fun _ => match Nat.beq (szE y) sz || isZ y with
        | true => (optV av env lo).bind fun l => (optV av env hi).map fun h => .wd (fun K => scW n l h fun a m => K (two a m)) fun x => partE y sz (fst2 x) (snd2 x)
        | false => none
      | _ => none
    | _ => none
  | .fieldAddr t x i => match C.P.underlying t with
    | some (.struct fields) => (fields[i]?).bind fun f => (szT C.P f.type).bind fun sz => if sz = 0 then none else match ev2 av env x with
      | .o y => match knownP ro ob y with
        | true => some (.ev (.o (addO y f.offset)))
        | false => none
      | _ => none
    | _ => none
  | .indexAddr t x i => match C.P.underlying t with
    | some (.slice e) => (szT C.P e).bind fun sz => match ev2 av env x with
      | .o y => (lenE ro ob y).bind fun n => match Nat.beq (szE y) sz with
        | true => (valOf (ev2 av env i)).map fun a => .wd (ixW n a) (elemE y sz)
        | false => none
      | _ => none
    | _ => none
  | .index t x i => match C.P.underlying t with
    | some .string => (valOf (ev2 av env x)).bind fun a => (valOf (ev2 av env i)).map fun b => .wd (prP (ix a b)) val1
    | _ => none
  | .extract x i => match ev2 av env x with
    | .u ys => match Nat.blt i ys.length with
      | true => some (.ev (exE (.u ys) i))
      | false => none
    | _ => none
  | .call c => match c.callee with
    | .value (.func f) => match (C.P.funcs[f]?).bind (·.body) with
      | some _ => if ((C.P.funcs[f]?).map (·.name)).getD "" == "runtime.NumGoroutine" then none else (sgOf sgs f).bind fun g => callE C ro ob nk f g (c.args.toList.map (ev2 av env))
      | none => none
    | .builtin .len => match c.argTypes.toList, c.args.toList with
      | [t], [x] => match C.P.underlying t with
        | some .string => (valOf (ev2 av env x)).map fun a => .wd (prP (lnS a)) val1
        | some (.slice _) => match ev2 av env x with
          | .o y => (lenE ro ob y).map fun n => .ev (.o (.v (iv n)))
          | _ => none
        | _ => none
      | _, _ => none
    | .builtin .min => match c.args.toList with
      | [x, y] => (valOf (ev2 av env x)).bind fun a => (valOf (ev2 av env y)).map fun b => .wd (prP (mn a b)) val1
      | _ => none
    | .builtin .append => match c.argTypes.toList, c.args.toList with
      | [t, u], [x, y] => if t == u then match C.P.underlying t with
        | some (.slice e) => (zeroT C.P e).bind fun z => (kindsT C.P 8 e).bind fun ks => if 0 < z.2.1 && 0 < z.2.2 && cellsLn ks z.2.1 then match ev2 av env x, ev2 av env y with
            | .o a, .o b => (apBase ob z.2.1 a).bind fun p => (lenE ro ob b).bind fun m => (apPart ro p.2.2.1 ks b z.2.1).map fun q =>
                .fr p.2.2.2 [] fun K => apW q.1 (onlyC ks) p.2.1 m z.2.2 (K ((nk, .ls true (p.1 ++ q.1)) :: q.2) (nk + 1) (.o (.t nk z.2.1)))
            | _, _ => none
          else none
        | _ => none
        else none
      | _, _ => none
    | _ => none
  | _ => none
/-! ### Operations one behind the other -/
def putV (dst : Option Tmp) (tag : Option (Nat × Bool)) (e : EV) (env : Env2) : Env2 := match dst with
  | some d => (d, tag, e) :: env
  | none => env
def noQ : EV → EV
  | .o (.q _) => .o .w
  | e => e
def qq : EV → EV
  | .o (.v x) => .o (.q x)
  | .o (.q _) => .o .w
  | e => e
/-- Nothing hangs on the place d. -/
def noTag : Env2 → Nat → Bool
  | [], _ => true
  | (_, some (g, _), _) :: r, d => !(Nat.beq g d) && noTag r d
  | (_, none, _) :: r, d => noTag r d
def freeD (dst : Option Tmp) (g : Option (Nat × Bool × Value)) (env : Env2) : Bool := match dst with
  | none => true
  | some d => noTag env d && (match g with | some (t, _, _) => !(Nat.beq t d) | none => true)
def step2 (g : Option (Nat × Bool × Value)) (r : R2) (dst : Option Tmp) (ob : Obs) (nk : Nat) (env : Env2) (K : Obs → Nat → Env2 → Prop) : Prop := match freeD dst g env with
  | false => False
  | true => match g with
    | none => match r with
      | .ev e => K ob nk (putV dst none e env)
      | .st _ ob' nk' e => K ob' nk' (putV dst none e env)
      | .wd m mk => m fun x => K ob nk (putV dst none (mk x) env)
      | .fr _ kl m => m fun ob' nk' e => K ob' nk' (putV dst none e (killEnv kl env))
    | some (t, w, gv) => match r with
      | .ev e => gE gv (K ob nk (putV dst (some (t, w)) (noQ e) env))
      | .wd m mk => gP gv w m fun x => K ob nk (putV dst (some (t, w)) (qq (mk x)) env)
      | _ => False
/-- What a place holds whose guard holds g. -/
def selW : Value → Bool → Value → Value
  | .bool true, true, a => a
  | .bool false, false, a => a
  | _, _, _ => undef
def gval (env : Env2) : Nat → Nat → Option Value
  | 0, t => valOf (tkE [] (lkE env t))
  | n + 1, t => match lkE env t with
    | (some (g, w), .o (.v a)) => (gval env n g).map fun gv => selW gv w a
    | x => valOf (tkE [] x)
/-- The guard of an operation, with what is known behind it. -/
def gdOf (ops : Array Oper) (env : Env2) (o : Oper) : Option (Option (Nat × Bool × Value) × List (Nat × Bool)) := match o.guard with
  | none => some (none, [])
  | some (j, want) => (dstOf ops j).bind fun t => (gval env 6 t).map fun gv => (some (t, want, gv), avail env 6 t want)
def runOps2 (C : Ctx) (sgs : List (Nat × Sg)) (ro : List (List T)) (ops : Array Oper) : List Oper → Obs → Nat → Env2 → (Obs → Nat → Env2 → Prop) → Prop
  | [], ob, nk, env, K => K ob nk env
  | o :: r, ob, nk, env, K => match gdOf ops env o with
    | none => False
    | some g => match op2 C sgs ro ob nk g.2 env o with
      | none => False
      | some x => step2 g.1 x o.dst ob nk env fun ob' nk' env' => runOps2 C sgs ro ops r ob' nk' env' K
def affOf : R2 → List Nat
  | .ev _ => []
  | .st aff _ _ _ => aff
  | .wd _ _ => []
  | .fr aff _ _ => aff
def knownE (ro : List (List T)) (ob : Obs) : E0 → Bool
  | .p k _ => match look2 ro ob k with
    | some (.bx _) => true
    | _ => false
  | .e k _ _ | .s k _ _ _ _ | .t k _ | .n k _ _ => match look2 ro ob k with
    | some (.ls _ _) => true
    | _ => false
  | _ => false
def flatE : E0 → Bool
  | .w => true
  | .p _ _ => true
  | .t _ _ => true
  | .e _ [] _ => true
  | .s _ [] _ _ _ => true
  | .n _ [] _ => true
  | _ => false
def plainE : E0 → Bool
  | .v _ => true
  | .z => true
  | _ => false
def monE (ro : List (List T)) (ob : Obs) (aff : List Nat) : EV → Bool
  | .o x => plainE x || (match rootE x with
    | [k] => knownE ro ob x && !(aff.any (Nat.beq k))
    | _ => false)
  | _ => false
def samE (ro : List (List T)) (ob : Obs) (ids : List Nat) : EV → Bool
  | .o x => plainE x || (match rootE x with
    | [k] => knownE ro ob x && ids.any (Nat.beq k) && (flatE x || Nat.blt k ro.length)
    | _ => false)
  | _ => false
def upTo : Nat → List Nat
  | 0 => []
  | n + 1 => n :: upTo n
def idsOf (ro : List (List T)) (ob : Obs) (aff : List Nat) : List Nat := (ob.map (·.1) ++ upTo ro.length).filter fun k => !(aff.any (Nat.beq k))
/-- What a reader reads, what a maker makes. -/
def wOf (av : List (Nat × Bool)) (env : Env2) (o : Oper) : EV := match o.op with
  | .load _ a => ev2 av env a
  | .convert _ _ x => ev2 av env x
  | _ => .o .w
def klOf : R2 → List Nat
  | .fr _ kl _ => kl
  | _ => []
def killP (kl : List Nat) (past : List (Nat × EV)) : List (Nat × EV) := match kl with
  | [] => past
  | kl => past.map fun x => (x.1, killV kl x.2)
inductive Knd where
  | rd | al | no | mu
/-- The kind of an operation in a drawn region, as the engine sees it. -/
def kndOf (C : Ctx) (o : Oper) : Knd := match o.op with
  | .load _ _ => .rd
  | .convert src _ _ => match C.P.underlying src with
    | some (.slice _) => .rd
    | _ => .no
  | .alloc _ | .box _ _ | .buildSlice _ _ _ | .makeSlice _ _ _ => .al
  | .store _ _ _ => .mu
  | .call c => match c.callee with
    | .value _ => .mu
    | .builtin .append => .mu
    | _ => .no
  | _ => .no
def resE (dst : Option Tmp) (env : Env2) : EV := match dst with
  | some d => match (lkE env d).1 with
    | none => (lkE env d).2
    | some _ => .o .w
  | none => .o .w
def drawOps2 (C : Ctx) (sgs : List (Nat × Sg)) (ro : List (List T)) (ops : Array Oper) (L : List Nat) : Nat → List Oper → Obs → Nat → Env2 → List (Nat × EV) → List (Nat × List Nat) → (Obs → Nat → Env2 → Prop) → Prop
  | _, [], ob, nk, env, _, _, K => K ob nk env
  | i, o :: r, ob, nk, env, past, pend, K => match gdOf ops env o with
    | none => False
    | some g => match op2 C sgs ro ob nk g.2 env o with
      | none => False
      | some x => match kndOf C o with
        | .rd => match (picks L i pend).all fun ids => samE ro ob ids (wOf g.2 env o) with
          | true => step2 g.1 x o.dst ob nk env fun ob' nk' env' => drawOps2 C sgs ro ops L (i + 1) r ob' nk' env' ((i, killV (klOf x) (wOf g.2 env o)) :: killP (klOf x) past) pend K
          | false => False
        | .al => step2 g.1 x o.dst ob nk env fun ob' nk' env' => drawOps2 C sgs ro ops L (i + 1) r ob' nk' env' ((i, resE o.dst env') :: killP (klOf x) past) pend K
        | .no => step2 g.1 x o.dst ob nk env fun ob' nk' env' => drawOps2 C sgs ro ops L (i + 1) r ob' nk' env' (killP (klOf x) past) pend K
        | .mu => match mets C.P L i 0 ops.toList with
          | false => step2 g.1 x o.dst ob nk env fun ob' nk' env' => drawOps2 C sgs ro ops L (i + 1) r ob' nk' env' (killP (klOf x) past) pend K
          | true => match (picks L i past).all fun w => monE ro ob (affOf x) w with
            | true => step2 g.1 x o.dst ob nk env fun ob' nk' env' => drawOps2 C sgs ro ops L (i + 1) r ob' nk' env' (killP (klOf x) past) ((i, idsOf ro ob (affOf x)) :: pend) K
            | false => False
/-! ### Code -/
/-- What is live where ways meet. -/
inductive Rf where
  | f (k : Nat)
  | j (k : Nat)
inductive SH where
  | v
  | w
  | z
  | t (r : Rf) (e : Nat)
  | s (r : Rf) (d e : Nat)
  | n (r : Rf) (d e : Nat)
  | p (r : Rf) (off : Nat)
  | e (r : Rf) (d : Nat)
inductive JO where
  | ls
  | bx (cs : List SH)
structure JS where
  ts : List SH
  ps : List SH
  os : List JO
abbrev Jm := List (Nat × Option Nat)
def lookJ : Jm → Nat → Option (Option Nat)
  | [], _ => none
  | (a, x) :: r, k => match Nat.beq a k with
    | true => some x
    | false => lookJ r k
/-- Object j of the meeting is number k here. -/
def addJ (nro : Nat) (m : Jm) : Rf → Nat → Option Jm
  | .f a, k => match Nat.beq a k && Nat.blt a nro with
    | true => some m
    | false => none
  | .j a, k => match lookJ m a with
    | none => some ((a, some k) :: m)
    | some (some k') => match Nat.beq k k' with
      | true => some m
      | false => none
    | some none => none
def ivs (l : List Nat) : List Value := l.map iv
def outS (nro : Nat) : SH → E0 → Jm → Option (List Value × Jm)
  | .v, .v a, m => some ([a], m)
  | .w, _, m => some ([], m)
  | .z, .z, m => some ([], m)
  | .t (.j a) e, .z, m => match lookJ m a, Nat.blt 0 e with
    | none, true => some ([], (a, none) :: m)
    | _, _ => none
  | .t r e, .t k e', m => match Nat.beq e e' with
    | true => (addJ nro m r k).map fun m' => ([], m')
    | false => none
  | .s r d e, .s k pre off n e', m => match Nat.beq e e' && Nat.beq pre.length d with
    | true => (addJ nro m r k).map fun m' => (iv n :: iv off :: ivs pre, m')
    | false => none
  | .n r d e, .n k pre e', m => match Nat.beq e e' && Nat.beq pre.length d with
    | true => (addJ nro m r k).map fun m' => (ivs pre, m')
    | false => none
  | .p r off, .p k off', m => match Nat.beq off off' with
    | true => (addJ nro m r k).map fun m' => ([], m')
    | false => none
  | .e r d, .e k pre off, m => match Nat.beq pre.length d with
    | true => (addJ nro m r k).map fun m' => (iv off :: ivs pre, m')
    | false => none
  | _, _, _ => none
def outSs (nro : Nat) : List SH → List E0 → Jm → Option (List Value × Jm)
  | [], [], m => some ([], m)
  | h :: r, x :: xs, m => (outS nro h x m).bind fun p => (outSs nro r xs p.2).map fun q => (p.1 ++ q.1, q.2)
  | _, _, _ => none
def e0Of : EV → E0
  | .o x => x
  | _ => .w
/-- The objects, one behind the other: those behind pointers first. -/
def outO (nro : Nat) (ob : Obs) : List JO → Nat → Jm → Option (List Value × List (List T) × Jm)
  | [], _, m => some ([], [], m)
  | .ls :: r, a, m => match lookJ m a with
    | some none => (outO nro ob r (a + 1) m).map fun q => (q.1, [] :: q.2.1, q.2.2)
    | some (some k) => match lookO ob k with
      | some (.ls true cs) => (outO nro ob r (a + 1) m).map fun q => (q.1, cs :: q.2.1, q.2.2)
      | _ => none
    | none => none
  | .bx hs :: r, a, m => match lookJ m a with
    | some (some k) => match lookO ob k with
      | some (.bx xs) => (outSs nro hs xs m).bind fun p => (outO nro ob r (a + 1) p.2).map fun q => (p.1 ++ q.1, q.2.1, q.2.2)
      | _ => none
    | _ => none
/-- Each object but once. -/
def injJ : Jm → Bool
  | [] => true
  | (_, none) :: r => injJ r
  | (_, some k) :: r => !(r.any fun x => match x.2 with | some k' => Nat.beq k k' | none => false) && injJ r
def outJ (nro : Nat) (js : JS) (es : List E0) (ob : Obs) : Option (List Value × List (List T)) := (outSs nro (js.ts ++ js.ps) es []).bind fun p => (outO nro ob js.os 0 p.2).bind fun q => match injJ q.2.2 && q.2.2.all fun x => Nat.blt x.1 js.os.length with
  | true => some (p.1 ++ q.1, q.2.1)
  | false => none
def idOf (n0 : Nat) : Rf → Nat
  | .f k => k
  | .j k => n0 + k
def preAt (xs : List Value) : Nat → Nat → List Nat
  | 0, _ => []
  | d + 1, i => natOf (nx xs i) :: preAt xs d (i + 1)
/-- A place behind the meeting, with how many values it takes. -/
def inS (n0 : Nat) (xs : List Value) (i : Nat) : SH → E0 × Nat
  | .v => (.v (nx xs i), i + 1)
  | .w => (.w, i)
  | .z => (.z, i)
  | .t r e => (.t (idOf n0 r) e, i)
  | .s r d e => (.s (idOf n0 r) (preAt xs d (i + 2)) (natOf (nx xs (i + 1))) (natOf (nx xs i)) e, i + 2 + d)
  | .n r d e => (.n (idOf n0 r) (preAt xs d i) e, i + d)
  | .p r off => (.p (idOf n0 r) off, i)
  | .e r d => (.e (idOf n0 r) (preAt xs d (i + 1)) (natOf (nx xs i)), i + 1 + d)
def inSs (n0 : Nat) (xs : List Value) : Nat → List SH → List E0 × Nat
  | i, [] => ([], i)
  | i, h :: r => let a := inS n0 xs i h; let b := inSs n0 xs a.2 r; (a.1 :: b.1, b.2)
def inO (n0 : Nat) (xs : List Value) (cs : List (List T)) : List JO → Nat → Nat → Nat → Obs
  | [], _, _, _ => []
  | .ls :: r, a, i, j => (n0 + a, .ls true (nxc cs j)) :: inO n0 xs cs r (a + 1) i (j + 1)
  | .bx hs :: r, a, i, j => let b := inSs n0 xs i hs; (n0 + a, .bx b.1) :: inO n0 xs cs r (a + 1) b.2 j
def inEnv : List Nat → List E0 → Env2
  | t :: r, x :: xs => (t, none, .o x) :: inEnv r xs
  | _, _ => []
structure S2 where
  ob : Obs
  nk : Nat
  env : Env2
  pins : List E0
def inJ (js : JS) (L : List Nat) (n0 : Nat) (xs : List Value) (cs : List (List T)) : S2 :=
  let a := inSs n0 xs 0 (js.ts ++ js.ps)
  ⟨inO n0 xs cs js.os 0 a.2 0, n0 + js.os.length, inEnv L (a.1.take L.length), a.1.drop L.length⟩
def liveE (L : List Nat) (env : Env2) : List E0 := L.map fun t => e0Of (tkE [] (lkE env t))
def flatS : SH → Bool
  | .w => true
  | .t _ _ => true
  | .p _ _ => true
  | _ => false
/-- A whole slice, taken as a part. -/
def castE (ro : List (List T)) (ob : Obs) : SH → E0 → E0
  | .s _ 0 e, .t k e' => match contE ro ob (.t k e') e with
    | some cs => .s k [] 0 (cnt e cs) e
    | none => .t k e'
  | _, x => x
def castEs (ro : List (List T)) (ob : Obs) : List SH → List E0 → List E0
  | h :: r, x :: xs => castE ro ob h x :: castEs ro ob r xs
  | _, xs => xs
def meet (ro : List (List T)) (js : JS) (L : List Nat) (σ : S2) (j : J2) : Prop := match js.ps.all flatS && Nat.beq js.ts.length L.length with
  | true => match outJ ro.length js (castEs ro σ.ob js.ts (liveE L σ.env) ++ σ.pins) σ.ob with
    | some (xs, cs) => j xs cs
    | none => False
  | false => False
def lookS : List (Nat × JS) → Nat → Option JS
  | [], _ => none
  | (a, m) :: r, id => match Nat.beq a id with
    | true => some m
    | false => lookS r id
abbrev Kap2 := Ex → S2 → Prop
def blkK2 (id : Nat) (κ : Kap2) : Kap2 := fun e => match e with
  | .ext i => match Nat.beq i id with
    | true => κ .nor
    | false => κ (.ext i)
  | .nor => κ .nor
  | .rt => κ .rt
def thenK2 (f : S2 → Prop) (κ : Kap2) : Kap2 := fun e => match e with
  | .nor => f
  | .ext i => κ (.ext i)
  | .rt => κ .rt
/-- pos: where the code stands; js: what is live where ways meet. -/
def exec2 (C : Ctx) (sgs : List (Nat × Sg)) (ro : List (List T)) (an : List (Nat × List Nat)) (js : List (Nat × JS)) (rm nt : Nat) : Code → Nat → S2 → Nat → List (Nat × Nat) → Kap2 → Prop
  | .skip, _, σ, _, _, κ => κ .nor σ
  | .region id ops false, _, σ, _, _, κ => runOps2 C sgs ro ops ops.toList σ.ob σ.nk σ.env fun ob nk env => κ .nor ⟨ob, nk, env, σ.pins⟩
  | .region id ops true, _, σ, _, _, κ => match lookL an id with
    | none => False
    | some L => match drawOk L ops 0 ops.toList with
      | true => drawOps2 C sgs ro ops L 0 ops.toList σ.ob σ.nk σ.env [] [] fun ob nk env => κ .nor ⟨ob, nk, env, σ.pins⟩
      | false => False
  | .seq a b, pos, σ, lo, exs, κ =>
    let lb := live rm b lo exs
    match Nat.ble (ends a) 1 with
    | true => exec2 C sgs ro an js rm nt a (2 * pos) σ lb exs (thenK2 (fun σ' => exec2 C sgs ro an js rm nt b (2 * pos + 1) σ' lo exs κ) κ)
    | false => match lookS js pos with
      | none => False
      | some J => joinP (fun xs cs => exec2 C sgs ro an js rm nt b (2 * pos + 1) (inJ J (bitsOf lb nt) σ.nk xs cs) lo exs κ) fun j =>
          exec2 C sgs ro an js rm nt a (2 * pos) σ lb exs (thenK2 (fun σ' => meet ro J (bitsOf lb nt) σ' j) κ)
  | .cond c x y, pos, σ, lo, exs, κ => match valOf (ev2 [] σ.env c) with
    | some v => cndP v (exec2 C sgs ro an js rm nt x (2 * pos) σ lo exs κ) (exec2 C sgs ro an js rm nt y (2 * pos + 1) σ lo exs κ)
    | none => False
  | .block id c, pos, σ, lo, exs, κ => exec2 C sgs ro an js rm nt c (2 * pos) σ lo ((id, lo) :: exs) (blkK2 id κ)
  | .loop c, pos, σ, _, exs, κ =>
    let ll := live rm (.loop c) 0 exs
    match lookS js pos with
    | none => False
    | some J => meet ro J (bitsOf ll nt) σ (loopP fun self xs cs => exec2 C sgs ro an js rm nt c (2 * pos) (inJ J (bitsOf ll nt) σ.nk xs cs) ll exs (thenK2 (fun σ' => meet ro J (bitsOf ll nt) σ' self) κ))
  | .exit id, _, σ, _, _, κ => κ (.ext id) σ
  | .ret, _, σ, _, _, κ => κ .rt σ
  | _, _, _, _, _, _ => False
/-! ### A function -/
/-- Parameters laid down: cells, objects, next number. -/
structure In where
  xs : List E0
  ob : Obs
  nk : Nat
  i : Nat
  j : Nat
  rj : Nat
  sids : List (Nat × Nat)
  mp : List E0
def inC (vs : List Value) (cs : List (List T)) : List CS → Obs → Nat → Nat → Nat → Nat → In
  | [], ob, nk, i, j, rj => ⟨[], ob, nk, i, j, rj, [], []⟩
  | .v :: r, ob, nk, i, j, rj => let p := inC vs cs r ob nk (i + 1) j rj; ⟨.v (nx vs i) :: p.xs, p.ob, p.nk, p.i, p.j, p.rj, p.sids, p.mp⟩
  | .t e 0 :: r, ob, nk, i, j, rj => let p := inC vs cs r ob nk i (j + 1) (rj + 1); ⟨.t rj e :: p.xs, p.ob, p.nk, p.i, p.j, p.rj, (rj, e) :: p.sids, p.mp⟩
  | .t e 1 :: r, ob, nk, i, j, rj => let p := inC vs cs r ((nk, .ls true (nxc cs j)) :: ob) (nk + 1) i (j + 1) rj; ⟨.t nk e :: p.xs, p.ob, p.nk, p.i, p.j, p.rj, (nk, e) :: p.sids, .t nk e :: p.mp⟩
  | .t e _ :: r, ob, nk, i, j, rj => let p := inC vs cs r ((nk, .ls true (nxc cs j)) :: ob) (nk + 1) i (j + 1) rj; ⟨.t nk e :: p.xs, p.ob, p.nk, p.i, p.j, p.rj, (nk, e) :: p.sids, p.mp⟩
structure InP where
  es : List EV
  ob : Obs
  nk : Nat
  sids : List (Nat × Nat)
  bp : List E0
  mp : List E0
def inP (vs : List Value) (cs : List (List T)) : List (Nat × List CS) → Obs → Nat → Nat → Nat → Nat → InP
  | [], ob, nk, i, j, rj => ⟨[], ob, nk, [], [], []⟩
  | (w, k) :: r, ob, nk, i, j, rj =>
    let p := inC vs cs k ob nk i j rj
    match w with
    | 0 => let q := inP vs cs r p.ob p.nk p.i p.j p.rj; ⟨(match p.xs with | [x] => .o x | _ => .o .w) :: q.es, q.ob, q.nk, p.sids ++ q.sids, q.bp, p.mp ++ q.mp⟩
    | 1 => let q := inP vs cs r p.ob p.nk p.i p.j p.rj; ⟨.g p.xs :: q.es, q.ob, q.nk, p.sids ++ q.sids, q.bp, p.mp ++ q.mp⟩
    | _ => let q := inP vs cs r ((p.nk, .bx p.xs) :: p.ob) (p.nk + 1) p.i p.j p.rj; ⟨.o (.p p.nk 0) :: q.es, q.ob, q.nk, p.sids ++ q.sids, .p p.nk 0 :: q.bp, p.mp ++ q.mp⟩
def roOf : List CS → List (List T) → List (List T)
  | .v :: r, cs => roOf r cs
  | .t _ 0 :: r, c :: cs => c :: roOf r cs
  | .t _ _ :: r, _ :: cs => roOf r cs
  | _, _ => []
def envP : Nat → List EV → Env2
  | _, [] => []
  | i, e :: r => (i, none, e) :: envP (i + 1) r
def outC (nro : Nat) (sids : List (Nat × Nat)) : List RC → List E0 → Obs → Option (List Value × List (List T) × Obs)
  | [], [], ob => some ([], [], ob)
  | .v :: r, .v a :: xs, ob => (outC nro sids r xs ob).map fun p => (a :: p.1, p.2.1, p.2.2)
  | .t e :: r, .z :: xs, ob => (outC nro sids r xs ob).map fun p => (p.1, [] :: p.2.1, p.2.2)
  | .t e :: r, .t k e' :: xs, ob => match Nat.beq e e', lookO ob k with
    | true, some (.ls true c) => (outC nro sids r xs (delO ob k)).map fun p => (p.1, c :: p.2.1, p.2.2)
    | _, _ => none
  | .t e :: r, .s k [] off n e' :: xs, ob => match Nat.beq e e', lookO ob k with
    | true, some (.ls true c) => (outC nro sids r xs (delO ob k)).map fun p => (p.1, sub2 c [] off (n * e) :: p.2.1, p.2.2)
    | _, _ => none
  | .a j :: r, .t k e :: xs, ob => match Nat.beq k (sids.getD j (k + 1, 0)).1 && Nat.beq e (sids.getD j (k + 1, 0)).2 && Nat.blt k nro with
    | true => outC nro sids r xs ob
    | false => none
  | _, _, _ => none
def outW (nro : Nat) (sids : List (Nat × Nat)) (w : Nat) (k : List RC) (e : EV) (ob : Obs) : Option (List Value × List (List T) × Obs) := match w, e with
  | 0, .o x => outC nro sids k [x] ob
  | 1, .g xs => outC nro sids k xs ob
  | 2, .o (.p b 0) => match lookO ob b with
    | some (.bx xs) => outC nro sids k xs (delO ob b)
    | _ => none
  | _, _ => none
def outV (nro : Nat) (sids : List (Nat × Nat)) : List (Nat × List RC) → List EV → Obs → Option (List Value × List (List T) × Obs)
  | [], [], ob => some ([], [], ob)
  | (w, k) :: r, e :: es, ob => (outW nro sids w k e ob).bind fun p => (outV nro sids r es p.2.2).map fun q => (p.1 ++ q.1, p.2.1 ++ q.2.1, q.2.2)
  | _, _, _ => none
def outB (nro : Nat) (sids : List (Nat × Nat)) : List (List RC) → List E0 → Obs → Option (List Value × List (List T) × Obs)
  | [], [], ob => some ([], [], ob)
  | k :: r, .p b 0 :: bs, ob => match lookO ob b with
    | some (.bx xs) => (outC nro sids k xs (delO ob b)).bind fun p => (outB nro sids r bs p.2.2).map fun q => (p.1 ++ q.1, p.2.1 ++ q.2.1, q.2.2)
    | _ => none
  | _, _, _ => none
def outM : List E0 → Obs → Option (List (List T))
  | [], _ => some []
  | .t k e :: r, ob => match lookO ob k with
    | some (.ls true c) => (outM r (delO ob k)).map fun l => c :: l
    | _ => none
  | _, _ => none
def resEs (σ : S2) (P : Program) : List ResultVar → Option (List EV)
  | [] => some []
  | .tmp t :: r => (resEs σ P r).map fun l => tkE [] (lkE σ.env t) :: l
  | .cell a t :: r => (szT P t).bind fun sz => (aggT P t).bind fun ag => match tkE [] (lkE σ.env a) with
    | .o (.p k off) => match lookO σ.ob k with
      | some (.bx xs) => match Nat.beq ((xs.drop off).take sz).length sz && Nat.blt 0 sz with
        | true => match ag with
          | true => (resEs σ P r).map fun l => .g ((xs.drop off).take sz) :: l
          | false => match (xs.drop off).take sz with
            | [x] => (resEs σ P r).map fun l => .o x :: l
            | _ => none
        | false => none
      | _ => none
    | _ => none
def hasA (g : Sg) : Bool := (g.rs.any fun p => p.2.any fun c => match c with | .a _ => true | _ => false) || (g.bs.any fun p => p.any fun c => match c with | .a _ => true | _ => false)
/-- What is held on to, for what is given back of the arguments themselves. -/
def pinOf (nro : Nat) (x : Nat × Nat) : E0 := match Nat.blt x.1 nro with
  | true => .t x.1 x.2
  | false => .w
def eqE : List E0 → List E0 → Bool
  | [], [] => true
  | .t k e :: r, .t k' e' :: r' => Nat.beq k k' && Nat.beq e e' && eqE r r'
  | .w :: r, .w :: r' => eqE r r'
  | _, _ => false
def roPins (g : Sg) (nro : Nat) (sids : List (Nat × Nat)) : List E0 := match hasA g with
  | true => sids.map (pinOf nro)
  | false => []
def ret2 (C : Ctx) (g : Sg) (nro : Nat) (ip : InP) (rs : List ResultVar) (σ : S2) (K : J2) : Prop := match resEs σ C.P rs with
  | none => False
  | some es => match outV nro ip.sids g.rs es σ.ob with
    | none => False
    | some p => match outB nro ip.sids g.bs (σ.pins.take ip.bp.length) p.2.2 with
      | none => False
      | some q => match outM ((σ.pins.drop ip.bp.length).take ip.mp.length) q.2.2 with
        | none => False
        | some l => match eqE ((σ.pins.drop ip.bp.length).drop ip.mp.length) (roPins g nro ip.sids) with
          | true => K (p.1 ++ q.1) (p.2.1 ++ (q.2.1 ++ l))
          | false => False
def runF2 (C : Ctx) (sgs : List (Nat × Sg)) (an : List (Nat × List Nat)) (js : List (Nat × JS)) (fn : Func) (g : Sg) (vs : List Value) (cs : List (List T)) (K : J2) : Prop := match fn.body with
  | some c =>
    let ro := roOf (csOf g.ps) cs
    let ip := inP vs cs g.ps [] ro.length 0 0 0
    match okSg g && g.ps.all fun p => Nat.ble p.1 2 with
    | true => exec2 C sgs ro an js (resM fn.results.toList) fn.ntmps c 1 ⟨ip.ob, ip.nk, envP 0 ip.es, ip.bp ++ (ip.mp ++ roPins g ro.length ip.sids)⟩ (resM fn.results.toList) [] fun e σ => match e with
      | .ext _ => False
      | .nor => ret2 C g ro.length ip fn.results.toList σ K
      | .rt => ret2 C g ro.length ip fn.results.toList σ K
    | false => False
  | none => False
end Go.Proofs.Ytmikdglafmfnfaa.Eng
