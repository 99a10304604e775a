/- The pure engine, its words: what a function's code does, said over trees alone, without memory. -/
import Derived.Test.YtmikdglafmfnfaaEngP
namespace Go.Proofs.Ytmikdglafmfnfaa.Eng
open Go Go.RowKit
set_option linter.unusedVariables false
/-! ### The words of a pure text -/
def prP (r : Option Value) (K : Value → Prop) : Prop := ∃ v, r = some v ∧ plain v = true ∧ K v
def gP (g : Value) (want : Bool) (m : (Value → Prop) → Prop) (K : Value → Prop) : Prop := (g = .bool want ∧ m K) ∨ ((g = .bool !want ∨ g = undef) ∧ K undef)
def isB : Value → Bool
  | .bool _ => true
  | .tuple ⟨[]⟩ => true
  | _ => false
def gE (g : Value) (q : Prop) : Prop := isB g = true ∧ q
def cndP (g : Value) (p q : Prop) : Prop := (g = .bool true ∧ p) ∨ (g = .bool false ∧ q)
abbrev J2 := List Value → List (List T) → Prop
def joinP (f : J2) (g : J2 → Prop) : Prop := g f
def loopP (F : J2 → J2) (xs : List Value) (cs : List (List T)) : Prop := ∀ R : J2, (∀ xs cs, F R xs cs → R xs cs) → R xs cs
def natOf : Value → Nat
  | .int _ n => n.toNat
  | _ => 0
def iv (n : Nat) : Value := .int .i64 n
def cnt (e : Nat) (cs : List T) : Nat := match e with
  | 1 => cs.length
  | _ => cs.length / e
def cell (cs : List T) (pre : List Nat) (off : Nat) : Option T := (node cs pre).bind fun ds => ds[off]?
def lput (ds : List T) (off : Nat) (ts : List T) : List T := ds.take off ++ (ts ++ ds.drop (off + ts.length))
def cput (cs : List T) (pre : List Nat) (off : Nat) (ts : List T) : List T := match node cs pre with
  | some ds => nput cs pre (lput ds off ts)
  | none => cs
def sub2 (cs : List T) (pre : List Nat) (off m : Nat) : List T := match node cs pre with
  | some ds => (ds.drop off).take m
  | none => []
inductive CK where
  | c
  | l (e : Nat)
def ckOk : List CK → List T → Bool
  | [], [] => true
  | .c :: r, .c _ :: ts => ckOk r ts
  | .l e :: r, .l e' _ :: ts => Nat.beq e e' && ckOk r ts
  | _, _ => false
def ldc (cs : List T) (pre : List Nat) (off : Nat) (K : Value → Prop) : Prop := ∃ v, cell cs pre off = some (.c v) ∧ K v
def ldl (cs : List T) (pre : List Nat) (off e : Nat) (K : Value → Prop) : Prop := (∃ ds, cell cs pre off = some (.l e ds)) ∧ K (iv 0)
def subN (cs : List T) (pre : List Nat) : List T := match node cs pre with
  | some ds => ds
  | none => []
def ldg (cs : List T) (pre : List Nat) (off : Nat) (ks : List CK) (K : List T → Prop) : Prop := ∃ ts, sub2 cs pre off ks.length = ts ∧ ckOk ks ts = true ∧ K ts
def tv : T → Value
  | .c v => v
  | _ => undef
def tn (e : Nat) : T → Nat
  | .l _ ds => cnt e ds
  | _ => 0
def nxT (ts : List T) (i : Nat) : T := ts.getD i (.c undef)
def nxc (cs : List (List T)) (i : Nat) : List T := cs.getD i []
def stc (cs : List T) (pre : List Nat) (off : Nat) (a : Value) (K : List T → Prop) : Prop := (∃ w, cell cs pre off = some (.c w)) ∧ K (cput cs pre off [.c a])
def stg (cs : List T) (pre : List Nat) (off : Nat) (ts : List T) (K : List T → Prop) : Prop := (∃ ds, node cs pre = some ds ∧ off + ts.length ≤ ds.length) ∧ K (cput cs pre off ts)
def ixW (n : Nat) (i : Value) (K : Value → Prop) : Prop := ∃ k j, i = .int k (Int.ofNat j) ∧ j < n ∧ K (iv j)
def scW (n : Nat) (lo hi : Option Value) (K : Value → Value → Prop) : Prop := ∃ l h, bnd 0 lo = some l ∧ bnd n hi = some h ∧ l ≤ h ∧ h ≤ n ∧ K (iv l) (iv (h - l))
def mkW (bytes : Nat) (l c : Value) (K : Value → Prop) : Prop := ∃ n : Nat, l = iv n ∧ c = iv n ∧ bytes * n ≤ 2 ^ 48 ∧ K (iv n)
def repT (n : Nat) (z : List T) : List T := (List.replicate n z).flatten
def isC : T → Bool
  | .c _ => true
  | .l _ _ => false
def flat (c : List T) : Bool := c.all isC
def apW (c : List T) (plainly : Bool) (n m bytes : Nat) (q : Prop) : Prop := (plainly = true → flat c = true) ∧ (n + m) * bytes ≤ 2 ^ 47 ∧ q
def isByteT : T → Bool
  | .c (.int .u8 _) => true
  | _ => false
def pushT (b : ByteArray) : T → ByteArray
  | .c (.int _ n) => b.push (UInt8.ofNat n.toNat)
  | _ => b
def b2T (ts : List T) : Option Value := if ts.all isByteT then some (.string (ts.foldl pushT ByteArray.empty)) else none
/-! ### Calls -/
inductive CS where
  | v
  | t (e m : Nat)
inductive RC where
  | v
  | t (e : Nat)
  | a (j : Nat)
/-- What a function takes and gives: for each parameter one cell (0), a struct (1) or a pointer to one (2); slices that it reads (0), writes (1), takes (2). -/
structure Sg where
  ps : List (Nat × List CS)
  rs : List (Nat × List RC)
  bs : List (List RC)
def CellsR (s : St) : List CS → List Value → List Value → List (List T) → List Value → List Nat → List Nat → Prop
  | [], us, vs, cs, sv, M, D => us = [] ∧ vs = [] ∧ cs = [] ∧ sv = [] ∧ M = [] ∧ D = []
  | .v :: r, us, vs, cs, sv, M, D => ∃ u us' vs', us = u :: us' ∧ vs = u :: vs' ∧ plain u = true ∧ CellsR s r us' vs' cs sv M D
  | .t e m :: r, us, vs, cs, sv, M, D => ∃ u us' c cs' sv' F M' D', us = u :: us' ∧ cs = c :: cs' ∧ sv = u :: sv' ∧ TR s (!(Nat.beq m 0)) (.l e c) u F ∧
      (match m with | 0 => M = M' ∧ D = F ++ D' | _ => M = F ++ M' ∧ D = D') ∧ CellsR s r us' vs cs' sv' M' D'
def ParR (s : St) : List (Nat × List CS) → List Value → List Value → List (List T) → List Value → List Nat → List Nat → Prop
  | [], as, vs, cs, sv, M, D => as = [] ∧ vs = [] ∧ cs = [] ∧ sv = [] ∧ M = [] ∧ D = []
  | (w, k) :: r, as, vs, cs, sv, M, D => ∃ a as' us v1 v2 c1 c2 s1 s2 M1 M2 D1 D2, as = a :: as' ∧ vs = v1 ++ v2 ∧ cs = c1 ++ c2 ∧ sv = s1 ++ s2 ∧ D = D1 ++ D2 ∧ CellsR s k us v1 c1 s1 M1 D1 ∧ ParR s r as' v2 c2 s2 M2 D2 ∧
      match w with
      | 0 => us = [a] ∧ M = M1 ++ M2
      | 1 => a = .agg us.toArray ∧ M = M1 ++ M2
      | _ => ∃ h, a = pt h 0 ∧ s.get h = some ⟨us, true⟩ ∧ M = h :: (M1 ++ M2)
def ResC (s : St) (sv : List Value) : List RC → List Value → List Value → List (List T) → List Nat → Prop
  | [], us, vs, cs, M => us = [] ∧ vs = [] ∧ cs = [] ∧ M = []
  | .v :: r, us, vs, cs, M => ∃ u us' vs', us = u :: us' ∧ vs = u :: vs' ∧ plain u = true ∧ ResC s sv r us' vs' cs M
  | .t e :: r, us, vs, cs, M => ∃ u us' c cs' F M', us = u :: us' ∧ cs = c :: cs' ∧ TR s true (.l e c) u F ∧ M = F ++ M' ∧ ResC s sv r us' vs cs' M'
  | .a j :: r, us, vs, cs, M => ∃ u us', us = u :: us' ∧ sv[j]? = some u ∧ ResC s sv r us' vs cs M
/-- The results, one behind the other. -/
def ResV (s : St) (sv : List Value) : List (Nat × List RC) → List Value → List Value → List (List T) → List Nat → Prop
  | [], as, vs, cs, M => as = [] ∧ vs = [] ∧ cs = [] ∧ M = []
  | (w, k) :: r, as, vs, cs, M => ∃ a as' us v1 v2 c1 c2 M1 M2, as = a :: as' ∧ vs = v1 ++ v2 ∧ cs = c1 ++ c2 ∧ ResC s sv k us v1 c1 M1 ∧ ResV s sv r as' v2 c2 M2 ∧
      match w with
      | 0 => us = [a] ∧ M = M1 ++ M2
      | 1 => a = .agg us.toArray ∧ M = M1 ++ M2
      | _ => ∃ h, a = pt h 0 ∧ s.get h = some ⟨us, true⟩ ∧ M = h :: (M1 ++ M2)
/-- What the pointers lead to behind the call. -/
def ResB (s : St) (sv : List Value) : List (Nat × List CS) → List Value → List (List RC) → List Value → List (List T) → List Nat → Prop
  | [], as, bs, vs, cs, M => bs = [] ∧ vs = [] ∧ cs = [] ∧ M = []
  | (2, k) :: r, as, bs, vs, cs, M => ∃ h as' b bs' us v1 v2 c1 c2 M1 M2, as = pt h 0 :: as' ∧ bs = b :: bs' ∧ vs = v1 ++ v2 ∧ cs = c1 ++ c2 ∧ s.get h = some ⟨us, true⟩ ∧ ResC s sv b us v1 c1 M1 ∧ ResB s sv r as' bs' v2 c2 M2 ∧ M = h :: (M1 ++ M2)
  | (_, k) :: r, as, bs, vs, cs, M => ∃ a as', as = a :: as' ∧ ResB s sv r as' bs vs cs M
/-- The slices that were written. -/
def csOf (ps : List (Nat × List CS)) : List CS := (ps.map (·.2)).flatten
def ResM (s : St) : List CS → List Value → List (List T) → List (List T) → List Nat → Prop
  | [], sv, cs, cs', M => cs' = [] ∧ M = []
  | .v :: r, sv, cs, cs', M => ResM s r sv cs cs' M
  | .t e 1 :: r, sv, cs, cs', M => ∃ u sv1 c cs1 c' cs1' F M', sv = u :: sv1 ∧ cs = c :: cs1 ∧ cs' = c' :: cs1' ∧ TR s true (.l e c') u F ∧ c'.length = c.length ∧ M = F ++ M' ∧ ResM s r sv1 cs1 cs1' M'
  | .t e _ :: r, sv, cs, cs', M => ∃ u sv1 c cs1, sv = u :: sv1 ∧ cs = c :: cs1 ∧ ResM s r sv1 cs1 cs' M
def bundle : List Value → Value
  | [v] => v
  | vs => .tuple vs.toArray
structure ResR (s : St) (g : Sg) (as sv : List Value) (cs : List (List T)) (v : Value) (vs' : List Value) (cs' : List (List T)) (M : List Nat) : Prop where
  ex : ∃ as' v1 v2 c1 c2 c3 M1 M2 M3, v = bundle as' ∧ (∀ a ∈ as', notTup a = true) ∧ vs' = v1 ++ v2 ∧ cs' = c1 ++ (c2 ++ c3) ∧ M = M1 ++ (M2 ++ M3) ∧ ResV s sv g.rs as' v1 c1 M1 ∧ ResB s sv g.ps as g.bs v2 c2 M2 ∧ ResM s (csOf g.ps) sv cs c3 M3
/-- The call of f makes values and trees that K allows of these, wherever they lie; what it may write is what it was given to write. -/
def cl2 (C : Ctx) (f : FuncId) (g : Sg) (vs : List Value) (cs : List (List T)) (K : J2) : Prop :=
  ∀ s as sv M D, ParR s g.ps as vs cs sv M D → M.Nodup → (∀ x ∈ M, x ∉ D) →
    ∃ v s' M' vs' cs', Goes C f as s v s' ∧ (∀ h, h < s.n → h ∉ M → s'.get h = s.get h) ∧ ResR s' g as sv cs v vs' cs' M' ∧ M'.Nodup ∧ (∀ h ∈ M', h ∈ M ∨ s.n ≤ h) ∧ s.n ≤ s'.n ∧ K vs' cs'
theorem cl2_mono {C : Ctx} {f : FuncId} {g : Sg} {vs : List Value} {cs : List (List T)} {K K' : J2} (h : cl2 C f g vs cs K) (hk : ∀ vs' cs', K vs' cs' → K' vs' cs') : cl2 C f g vs cs K' :=
  fun s as sv M D h1 h2 h3 => let ⟨v, s', M', vs', cs', k1, k2, k3, k4, k5, k6, k7⟩ := h s as sv M D h1 h2 h3; ⟨v, s', M', vs', cs', k1, k2, k3, k4, k5, k6, hk _ _ k7⟩
/-! ### What a place holds, as far as the text knows -/
inductive E0 where
  | v (a : Value)
  | q (a : Value)
  | z
  | p (k off : Nat)
  | e (k : Nat) (pre : List Nat) (off : Nat)
  | s (k : Nat) (pre : List Nat) (off n sz : Nat)
  | t (k sz : Nat)
  | n (k : Nat) (pre : List Nat) (sz : Nat)
  | w
inductive EV where
  | o (x : E0)
  | g (xs : List E0)
  | u (ys : List (Bool × List E0))
inductive Ob2 where
  | bx (cs : List E0)
  | ls (own : Bool) (cs : List T)
abbrev Obs := List (Nat × Ob2)
abbrev Env2 := List (Nat × Option (Nat × Bool) × EV)
def rget : List (List T) → Nat → Option Ob2
  | [], _ => none
  | c :: _, 0 => some (.ls false c)
  | _ :: r, k + 1 => rget r k
def lookO : Obs → Nat → Option Ob2
  | [], _ => none
  | (a, o) :: r, k => match Nat.beq a k with
    | true => some o
    | false => lookO r k
def look2 (ro : List (List T)) (ob : Obs) (k : Nat) : Option Ob2 := match lookO ob k with
  | some o => some o
  | none => rget ro k
def setO : Obs → Nat → Ob2 → Obs
  | [], _, _ => []
  | (a, o) :: r, k, x => match Nat.beq a k with
    | true => (a, x) :: r
    | false => (a, o) :: setO r k x
def delO : Obs → Nat → Obs
  | [], _ => []
  | (a, o) :: r, k => match Nat.beq a k with
    | true => r
    | false => (a, o) :: delO r k
def lkE : Env2 → Nat → Option (Nat × Bool) × EV
  | [], _ => (none, .o .w)
  | (d, x) :: r, t => match Nat.beq d t with
    | true => x
    | false => lkE r t
def mem2 : List (Nat × Bool) → Nat → Bool → Bool
  | [], _, _ => false
  | (g, w) :: r, g', w' => (Nat.beq g g' && (w == w')) || mem2 r g' w'
def avail (env : Env2) : Nat → Nat → Bool → List (Nat × Bool)
  | 0, g, w => [(g, w)]
  | n + 1, g, w => (g, w) :: match (lkE env g).1 with
    | some (g', w') => avail env n g' w'
    | none => []
def upg : EV → EV
  | .o (.q x) => .o (.v x)
  | e => e
def dng : EV → EV
  | .o (.q x) => .o (.q x)
  | _ => .o .w
def tkE (av : List (Nat × Bool)) (x : Option (Nat × Bool) × EV) : EV := match x.1 with
  | none => x.2
  | some (g, w) => match mem2 av g w with
    | true => upg x.2
    | false => dng x.2
def cE0 : Value → E0
  | .bool b => .v (.bool b)
  | .int k n => .v (.int k n)
  | .string s => .v (.string s)
  | .slice none 0 0 => .z
  | _ => .w
def constE : Value → EV
  | .agg cs => match cs.toList.all constC with
    | true => .g (cs.toList.map cE0)
    | false => .o .w
  | v => .o (cE0 v)
def ev2 (av : List (Nat × Bool)) (env : Env2) : Operand → EV
  | .tmp t => tkE av (lkE env t)
  | .const v => constE v
  | _ => .o .w
def valOf : EV → Option Value
  | .o (.v a) => some a
  | .o (.q a) => some a
  | _ => none
def good : E0 → Bool
  | .q _ => false
  | .w => false
  | _ => true
def cells2 : EV → Option (List E0)
  | .o x => match good x with | true => some [x] | false => none
  | .g xs => match xs.all good with | true => some xs | false => none
  | .u _ => none
def valsE : List E0 → Option (List Value)
  | [] => some []
  | .v a :: r => (valsE r).map (a :: ·)
  | _ :: _ => none
def kindsF (k : TypeId → Option (List CK)) : List Field → Option (List CK)
  | [] => some []
  | f :: r => (k f.type).bind fun a => (kindsF k r).map fun b => a ++ b
def kindsT (P : Program) : Nat → TypeId → Option (List CK)
  | 0, _ => none
  | n + 1, t => match P.underlying t with
    | some (.int _) => some [.c]
    | some .bool => some [.c]
    | some .string => some [.c]
    | some (.slice e) => (szT P e).bind fun sz => match sz with
      | 0 => none
      | sz + 1 => some [.l (sz + 1)]
    | some (.struct fs) => kindsF (kindsT P n) fs.toList
    | some (.array m e) => (kindsT P n e).map fun ks => (List.replicate m ks).flatten
    | _ => none
def zTs : List CK → List Value → Option (List T)
  | [], [] => some []
  | .c :: r, v :: vs => match plain v with
    | true => (zTs r vs).map (T.c v :: ·)
    | false => none
  | .l e :: r, .slice none 0 0 :: vs => (zTs r vs).map (T.l e [] :: ·)
  | _, _ => none
/-- Cells that go into a tree: whole slices of one's own go with them. -/
def toT : List CK → List E0 → Obs → Option (List T × Obs)
  | [], [], ob => some ([], ob)
  | .c :: r, .v a :: xs, ob => (toT r xs ob).map fun p => (T.c a :: p.1, p.2)
  | .l e :: r, .z :: xs, ob => (toT r xs ob).map fun p => (T.l e [] :: p.1, p.2)
  | .l e :: r, .t k e' :: xs, ob => match Nat.beq e e', lookO ob k with
    | true, some (.ls true cs) => (toT r xs (delO ob k)).map fun p => (T.l e cs :: p.1, p.2)
    | _, _ => none
  | _, _, _ => none
def fillT (ks : List CK) : List (Nat × List E0) → List T → Obs → Option (List T × Obs)
  | [], ts, ob => some (ts, ob)
  | (off, xs) :: r, ts, ob => match Nat.ble (off + ks.length) ts.length with
    | true => (toT ks xs ob).bind fun p => fillT ks r (lput ts off p.1) p.2
    | false => none
def fillX : List E0 → List (Nat × Nat × List E0) → Option (List E0)
  | cells, [] => some cells
  | cells, (off, size, xs) :: r => match Nat.beq xs.length size && Nat.ble (off + size) cells.length with
    | true => fillX (cells.take off ++ (xs ++ cells.drop (off + xs.length))) r
    | false => none
def partsX (P : Program) (av : List (Nat × Bool)) (env : Env2) (fields : Array Field) : List (Nat × Operand) → Option (List (Nat × Nat × List E0))
  | [] => some []
  | (i, x) :: r => (fields[i]?).bind fun f => (szT P f.type).bind fun sz => (cells2 (ev2 av env x)).bind fun xs => (partsX P av env fields r).map fun l => (f.offset, sz, xs) :: l
def partsY (av : List (Nat × Bool)) (env : Env2) (sz : Nat) : List (Nat × Operand) → Option (List (Nat × List E0))
  | [] => some []
  | (i, x) :: r => (cells2 (ev2 av env x)).bind fun xs => (partsY av env sz r).map fun l => (i * sz, xs) :: l
/-! ### What an operation does -/
inductive R2 where
  /-- known at once; no row changes -/
  | ev (e : EV)
  /-- nothing to ask -/
  | st (aff : List Nat) (ob : Obs) (nk : Nat) (e : EV)
  /-- a plain value; no row changes -/
  | wd (m : (Value → Prop) → Prop) (mk : Value → EV)
  /-- anything -/
  | fr (aff kl : List Nat) (m : (Obs → Nat → EV → Prop) → Prop)
def killE (kl : List Nat) : E0 → E0
  | .e k (i :: r) off => match kl.any (Nat.beq k) with | true => .w | false => .e k (i :: r) off
  | .s k (i :: r) off n sz => match kl.any (Nat.beq k) with | true => .w | false => .s k (i :: r) off n sz
  | .n k (i :: r) sz => match kl.any (Nat.beq k) with | true => .w | false => .n k (i :: r) sz
  | x => x
def killV (kl : List Nat) : EV → EV
  | .o x => .o (killE kl x)
  | .g xs => .g (xs.map (killE kl))
  | .u ys => .u (ys.map fun y => (y.1, y.2.map (killE kl)))
def killEnv (kl : List Nat) (env : Env2) : Env2 := match kl with
  | [] => env
  | _ => env.map fun x => (x.1, x.2.1, killV kl x.2.2)
def killO (kl : List Nat) : Obs → Obs
  | [] => []
  | (a, .bx xs) :: r => (a, .bx (xs.map (killE kl))) :: killO kl r
  | x :: r => x :: killO kl r
def val1 (x : Value) : EV := .o (.v x)
/-- A slice's row, place and length. -/
structure SlI where
  cs : List T
  n : Nat
/-- What a slice holds. -/
def contE (ro : List (List T)) (ob : Obs) : E0 → Nat → Option (List T)
  | .z, _ => some []
  | .t k e', e => match Nat.beq e e' with
    | true => match look2 ro ob k with
      | some (.ls _ cs) => some cs
      | _ => none
    | false => none
  | .s k pre off n e', e => match Nat.beq e e' with
    | true => match look2 ro ob k with
      | some (.ls _ cs) => some (sub2 cs pre off (n * e))
      | _ => none
    | false => none
  | .n k pre e', e => match Nat.beq e e' with
    | true => match look2 ro ob k with
      | some (.ls _ cs) => some (subN cs pre)
      | _ => none
    | false => none
  | _, _ => none
def lenE (ro : List (List T)) (ob : Obs) : E0 → Option Nat
  | .z => some 0
  | .t k e => match look2 ro ob k with
    | some (.ls _ cs) => some (cnt e cs)
    | _ => none
  | .s k _ _ n _ => match look2 ro ob k with
    | some (.ls _ _) => some n
    | _ => none
  | .n k pre e => match look2 ro ob k with
    | some (.ls _ cs) => some (cnt e (subN cs pre))
    | _ => none
  | _ => none
def loadK (cs : List T) (k : Nat) (pre : List Nat) (off : Nat) : List CK → Bool → Option R2
  | [.c], false => some (.wd (ldc cs pre off) val1)
  | [.l e], false => some (.wd (ldl cs pre off e) fun _ => .o (.n k (pre ++ [off]) e))
  | _, _ => none
def mkG (k : Nat) (pre : List Nat) (off : Nat) (ts : List T) : List CK → Nat → List E0
  | [], _ => []
  | .c :: r, j => .v (tv (nxT ts j)) :: mkG k pre off ts r (j + 1)
  | .l e :: r, j => .n k (pre ++ [off + j]) e :: mkG k pre off ts r (j + 1)
def onlyC : List CK → Bool
  | [] => true
  | .c :: r => onlyC r
  | _ :: _ => false
/-- Arguments: (plain values, trees, cells of slices, objects that are written or taken, objects that are read). -/
structure Ar where
  vs : List Value
  cs : List (List T)
  sl : List E0
  mu : List Nat
  rd : List Nat
def rootE : E0 → List Nat
  | .p k _ => [k]
  | .e k _ _ => [k]
  | .s k _ _ _ _ => [k]
  | .t k _ => [k]
  | .n k _ _ => [k]
  | _ => []
def isOwnS (ob : Obs) : E0 → Bool
  | .z => true
  | .t k _ => match lookO ob k with | some (.ls true _) => true | _ => false
  | .n k _ _ => match lookO ob k with | some (.ls true _) => true | _ => false
  | _ => false
def isOwnT (ob : Obs) : E0 → Bool
  | .z => true
  | .t k _ => match lookO ob k with | some (.ls true _) => true | _ => false
  | _ => false
def argC (ro : List (List T)) (ob : Obs) : List CS → List E0 → Option Ar
  | [], [] => some ⟨[], [], [], [], []⟩
  | .v :: r, .v a :: xs => (argC ro ob r xs).map fun p => ⟨a :: p.vs, p.cs, p.sl, p.mu, p.rd⟩
  | .t e m :: r, x :: xs => (contE ro ob x e).bind fun c => (argC ro ob r xs).bind fun p => match m with
    | 0 => some ⟨p.vs, c :: p.cs, x :: p.sl, p.mu, rootE x ++ p.rd⟩
    | 1 => match isOwnS ob x with | true => some ⟨p.vs, c :: p.cs, x :: p.sl, rootE x ++ p.mu, p.rd⟩ | false => none
    | _ => match isOwnT ob x with | true => some ⟨p.vs, c :: p.cs, x :: p.sl, rootE x ++ p.mu, p.rd⟩ | false => none
  | _, _ => none
def argP (ro : List (List T)) (ob : Obs) : List (Nat × List CS) → List EV → Option Ar
  | [], [] => some ⟨[], [], [], [], []⟩
  | (w, k) :: r, a :: as => (argP ro ob r as).bind fun q => match w, a with
    | 0, .o x => (argC ro ob k [x]).map fun p => ⟨p.vs ++ q.vs, p.cs ++ q.cs, p.sl ++ q.sl, p.mu ++ q.mu, p.rd ++ q.rd⟩
    | 1, .g xs => (argC ro ob k xs).map fun p => ⟨p.vs ++ q.vs, p.cs ++ q.cs, p.sl ++ q.sl, p.mu ++ q.mu, p.rd ++ q.rd⟩
    | 2, .o (.p b 0) => match lookO ob b with
      | some (.bx xs) => (argC ro ob k xs).map fun p => ⟨p.vs ++ q.vs, p.cs ++ q.cs, p.sl ++ q.sl, b :: (p.mu ++ q.mu), p.rd ++ q.rd⟩
      | _ => none
    | _, _ => none
  | _, _ => none
def nodupN : List Nat → Bool
  | [] => true
  | a :: r => !(r.any (Nat.beq a)) && nodupN r
def apartN (a b : List Nat) : Bool := a.all fun x => !(b.any (Nat.beq x))
/-- Results laid down: (cells, objects, next number, plain values and trees used). -/
structure Rs where
  xs : List E0
  ob : Obs
  nk : Nat
  i : Nat
  j : Nat
def resC (sl : List E0) (vs : List Value) (cs : List (List T)) : List RC → Obs → Nat → Nat → Nat → Rs
  | [], ob, nk, i, j => ⟨[], ob, nk, i, j⟩
  | .v :: r, ob, nk, i, j => let p := resC sl vs cs r ob nk (i + 1) j; ⟨.v (nx vs i) :: p.xs, p.ob, p.nk, p.i, p.j⟩
  | .t e :: r, ob, nk, i, j => let p := resC sl vs cs r ((nk, .ls true (nxc cs j)) :: ob) (nk + 1) i (j + 1); ⟨.t nk e :: p.xs, p.ob, p.nk, p.i, p.j⟩
  | .a n :: r, ob, nk, i, j => let p := resC sl vs cs r ob nk i j; ⟨sl.getD n .w :: p.xs, p.ob, p.nk, p.i, p.j⟩
structure Rv where
  ys : List (Nat × List E0)
  ob : Obs
  nk : Nat
  i : Nat
  j : Nat
def resV (sl : List E0) (vs : List Value) (cs : List (List T)) : List (Nat × List RC) → Obs → Nat → Nat → Nat → Rv
  | [], ob, nk, i, j => ⟨[], ob, nk, i, j⟩
  | (w, k) :: r, ob, nk, i, j =>
    let p := resC sl vs cs k ob nk i j
    match w with
    | 2 => let q := resV sl vs cs r ((p.nk, .bx p.xs) :: p.ob) (p.nk + 1) p.i p.j; ⟨(0, [.p p.nk 0]) :: q.ys, q.ob, q.nk, q.i, q.j⟩
    | w => let q := resV sl vs cs r p.ob p.nk p.i p.j; ⟨(w, p.xs) :: q.ys, q.ob, q.nk, q.i, q.j⟩
def resB (sl : List E0) (vs : List Value) (cs : List (List T)) : List (Nat × List CS) → List EV → List (List RC) → Obs → Nat → Nat → Nat → Rs
  | (2, _) :: r, .o (.p b _) :: as, x :: bs, ob, nk, i, j =>
    let p := resC sl vs cs x ob nk i j
    resB sl vs cs r as bs (setO p.ob b (.bx p.xs)) p.nk p.i p.j
  | _ :: r, _ :: as, bs, ob, nk, i, j => resB sl vs cs r as bs ob nk i j
  | _, _, _, ob, nk, i, j => ⟨[], ob, nk, i, j⟩
def resMu (ro : List (List T)) (cs : List (List T)) : List CS → List E0 → Obs → Nat → Obs
  | .v :: r, sl, ob, j => resMu ro cs r sl ob j
  | .t e 1 :: r, x :: sl, ob, j => match x with
    | .t k _ => resMu ro cs r sl (setO ob k (.ls true (nxc cs j))) (j + 1)
    | .n k pre _ => match lookO ob k with
      | some (.ls true c0) => resMu ro cs r sl (setO ob k (.ls true (nput c0 pre (nxc cs j)))) (j + 1)
      | _ => resMu ro cs r sl ob (j + 1)
    | _ => resMu ro cs r sl ob (j + 1)
  | .t e _ :: r, x :: sl, ob, j => resMu ro cs r sl ob j
  | _, _, ob, _ => ob
def delM : List CS → List E0 → Obs → Obs
  | .v :: r, sl, ob => delM r sl ob
  | .t e 2 :: r, .t k _ :: sl, ob => delM r sl (delO ob k)
  | .t e _ :: r, x :: sl, ob => delM r sl ob
  | _, _, ob => ob
def bundE : List (Nat × List E0) → EV
  | [(0, [x])] => .o x
  | [(_, xs)] => .g xs
  | ys => .u (ys.map fun y => (Nat.beq y.1 1, y.2))
def exE : EV → Nat → EV
  | .u ys, i => match ys.getD i (false, []) with
    | (true, xs) => .g xs
    | (false, [x]) => .o x
    | _ => .o .w
  | _, _ => .o .w
def allV : List (Nat × List RC) → Bool
  | [(0, [.v])] => true
  | _ => false
def okC : List CS → Bool
  | [] => true
  | .v :: r => okC r
  | .t e m :: r => Nat.blt 0 e && Nat.ble m 2 && okC r
def okR : List RC → Bool
  | [] => true
  | .t e :: r => Nat.blt 0 e && okR r
  | _ :: r => okR r
def okSg (g : Sg) : Bool := (g.ps.all fun p => okC p.2) && (g.rs.all fun p => okR p.2 && Nat.ble p.1 2) && g.bs.all okR
def sgOf : List (Nat × Sg) → Nat → Option Sg
  | [], _ => none
  | (a, g) :: r, f => match Nat.beq a f with
    | true => some g
    | false => sgOf r f
end Go.Proofs.Ytmikdglafmfnfaa.Eng
