/- The engine, its words: what an operation of the translated code does, said over a small memory of numbered rows. No proof about a statement lies here. -/
import Derived.Orders
import Derived.Below
import Derived.Room.AppendAsks
import Derived.Room.AppendOwn
import Derived.Laws.AppendOwn
namespace Go.Proofs.Ytmikdglafmfnfaa.Eng
open Go Go.RowKit
/-! ### The memory -/
structure Ob where
  cells : List Value
  own : Bool
structure St where
  n : Nat
  o : Nat → Option Ob
abbrev Q := St → Prop
abbrev M1 := St → Option (Value × St)
abbrev Env := List (Nat × Value)
/-- What nobody asks for: stands for any value. -/
def wild : Value := .nilFunc
def pt (h off : Nat) : Value := .pointer (some ⟨h, off, none⟩)
def sl (h off n e : Nat) : Value := .slice (some ⟨h, off, none⟩) n e
def nl : Value := .slice none 0 0
def lk : Env → Nat → Value
  | [], _ => wild
  | (d, v) :: r, t => match Nat.beq d t with
    | true => v
    | false => lk r t
def St.push (s : St) (ob : Ob) : St := ⟨s.n + 1, fun h => if h = s.n then some ob else s.o h⟩
def St.put (s : St) (h : Nat) (x : Option Ob) : St := ⟨s.n, fun k => if k = h then x else s.o k⟩
/-- What lies at h. -/
def St.get (s : St) (h : Nat) : Option Ob := if h < s.n then s.o h else none
theorem St.push_o (s : St) (ob : Ob) (k : Nat) : (s.push ob).o k = if k = s.n then some ob else s.o k := rfl
theorem St.put_o (s : St) (h : Nat) (x : Option Ob) (k : Nat) : (s.put h x).o k = if k = h then x else s.o k := rfl
theorem St.push_n (s : St) (ob : Ob) : (s.push ob).n = s.n + 1 := rfl
theorem St.put_n (s : St) (h : Nat) (x : Option Ob) : (s.put h x).n = s.n := rfl
theorem St.get_push (s : St) (ob : Ob) (k : Nat) : (s.push ob).get k = if k = s.n then some ob else s.get k := by
  unfold St.get
  rw [St.push_n, St.push_o]
  by_cases h : k = s.n
  · subst h; simp
  · by_cases h2 : k < s.n
    · simp [h, h2]; omega
    · have : ¬ k < s.n + 1 := by omega
      simp [h, h2, this]
theorem St.get_put (s : St) (h : Nat) (x : Option Ob) (k : Nat) (hh : h < s.n) : (s.put h x).get k = if k = h then x else s.get k := by
  unfold St.get
  rw [St.put_n, St.put_o]
  by_cases e : k = h
  · subst e; simp [hh]
  · simp [e]
theorem St.get_lt {s : St} {h : Nat} {ob : Ob} (hg : s.get h = some ob) : h < s.n := by
  unfold St.get at hg
  split at hg
  · assumption
  · cases hg
def cellsOf (v : Value) : List Value := v.cells.toList
def vok : Value → Bool
  | .nilFunc | .tuple _ => false
  | _ => true
def rdCells (ob : Ob) (off sz : Nat) : Option (List Value) := if off + sz ≤ ob.cells.length then some ((ob.cells.drop off).take sz) else none
def splice (l : List Value) (off : Nat) (xs : List Value) : List Value := l.take off ++ xs ++ l.drop (off + xs.length)
/-! ### Values alone -/
def bnI (op : BinOp) : Value → Value → Option Value
  | .int k a, .int k' b => match op with
    | .shl => if b < 0 then none else some (.int k (k.wrap (a * 2 ^ min b.toNat k.bits)))
    | .shr => if b < 0 then none else some (.int k (a.fdiv (2 ^ min b.toNat k.bits)))
    | _ => if k ≠ k' then none else match op with
      | .add => some (.int k (k.wrap (a + b)))
      | .sub => some (.int k (k.wrap (a - b)))
      | .mul => some (.int k (k.wrap (a * b)))
      | .quo => if b = 0 then none else some (.int k (k.wrap (a.tdiv b)))
      | .rem => if b = 0 then none else some (.int k (a.tmod b))
      | .and => some (.int k (k.wrap (BitVec.ofInt k.bits a &&& BitVec.ofInt k.bits b).toNat))
      | .or => some (.int k (k.wrap (BitVec.ofInt k.bits a ||| BitVec.ofInt k.bits b).toNat))
      | .xor => some (.int k (k.wrap (BitVec.ofInt k.bits a ^^^ BitVec.ofInt k.bits b).toNat))
      | .eql => some (.bool (a == b))
      | .neq => some (.bool (a != b))
      | .lss => some (.bool (a < b))
      | .leq => some (.bool (a ≤ b))
      | .gtr => some (.bool (a > b))
      | .geq => some (.bool (a ≥ b))
      | _ => none
  | _, _ => none
def bnS (op : BinOp) : Value → Value → Option Value
  | .string a, .string b => match op with
    | .add => if ((a.size + b.size : Nat) : Int) > IntKind.i64.max then none else some (.string (a ++ b))
    | .eql => some (.bool (a.toList == b.toList))
    | .neq => some (.bool !(a.toList == b.toList))
    | _ => none
  | _, _ => none
def bnB (op : BinOp) : Value → Value → Option Value
  | .bool a, .bool b => match op with
    | .eql => some (.bool (a == b))
    | .neq => some (.bool !(a == b))
    | _ => none
  | _, _ => none
/-- A pointer beside nil. -/
def bnP (op : BinOp) : Value → Value → Option Value
  | .pointer a, .pointer none => match op with
    | .eql => some (.bool a.isNone)
    | .neq => some (.bool !a.isNone)
    | _ => none
  | _, _ => none
def plain : Value → Bool
  | .bool _ | .int _ _ | .string _ => true
  | _ => false
def pureRun {α : Type} (P : Program) : Sem α → Option α
  | .pure a => some a
  | .program k => pureRun P (k P)
  | _ => none
def bnA (P : Program) (op : BinOp) (t : TypeId) : Value → Value → Option Value
  | .agg xs, .agg ys => if xs.all plain && ys.all plain then (match pureRun P (do eqGuard op t (.tmp 0) (.tmp 0) (.agg xs) (.agg ys); binOp op t (.agg xs) (.agg ys)) with
      | some (.bool b) => some (.bool b)
      | _ => none) else none
  | _, _ => none
def un (op : UnOp) : Value → Option Value
  | .bool b => match op with
    | .not => some (.bool !b)
    | _ => none
  | .int k n => match op with
    | .neg => some (.int k (k.wrap (0 - n)))
    | .xor => some (.int k (k.wrap (BitVec.ofInt k.bits (if k.signed then -1 else k.max) ^^^ BitVec.ofInt k.bits n).toNat))
    | _ => none
  | _ => none
def cvI (k : IntKind) : Value → Option Value
  | .int _ n => some (.int k (k.wrap n))
  | _ => none
def pk : Value → Value → Value → Option Value
  | .bool true, a, _ => some a
  | .bool false, _, b => some b
  | _, _, _ => none
def ex (v : Value) (i : Nat) : Option Value := match v with
  | .tuple vs => vs[i]?
  | _ => none
def lnS : Value → Option Value
  | .string s => some (.int .i64 s.size)
  | _ => none
def lnL : Value → Option Value
  | .slice _ n _ => some (.int .i64 n)
  | _ => none
def mn : Value → Value → Option Value
  | .int k x, .int _ y => some (.int k (if y < x then y else x))
  | _, _ => none
def nc : Value → Option Value
  | .pointer (some a) => some (.pointer (some a))
  | _ => none
def fa (off : Nat) : Value → Option Value
  | .pointer (some ⟨h, o, none⟩) => some (pt h (o + off))
  | _ => none
def ia (sz : Nat) : Value → Value → Option Value
  | .slice (some ⟨h, off, none⟩) n _, .int _ i => if 0 ≤ i ∧ i < n then some (pt h (off + i.toNat * sz)) else none
  | _, _ => none
def iaA (n sz : Nat) : Value → Value → Option Value
  | .pointer (some ⟨h, off, none⟩), .int _ i => if 0 ≤ i ∧ i < n then some (pt h (off + i.toNat * sz)) else none
  | _, _ => none
def ix : Value → Value → Option Value
  | .string s, .int _ i => if 0 ≤ i then (s[i.toNat]?).map fun b => .int .u8 b.toNat else none
  | _, _ => none
def bnd (d : Nat) : Option Value → Option Nat
  | none => some d
  | some (.int _ i) => if 0 ≤ i then some i.toNat else none
  | _ => none
def scS (x : Value) (lo hi : Option Value) : Option Value := match x with
  | .string s => (bnd s.size hi).bind fun h => (bnd 0 lo).bind fun l => if l ≤ h ∧ h ≤ s.size then some (.string (s.extract l h)) else none
  | _ => none
def scL (sz : Nat) (x : Value) (lo hi : Option Value) : Option Value := match x with
  | .slice (some ⟨a, off, none⟩) n e => (bnd n hi).bind fun h => (bnd 0 lo).bind fun l => if l ≤ h ∧ h ≤ n ∧ e = sz then some (sl a (off + l * sz) (h - l) sz) else none
  | .slice none n _ => (bnd n hi).bind fun h => (bnd 0 lo).bind fun l => if l = 0 ∧ h = 0 then some nl else none
  | _ => none
/-- Parts laid into cells: (place, size, value). -/
def fillE (cells : List Value) : List (Nat × Nat × Value) → Option (List Value)
  | [] => some cells
  | (off, size, v) :: r => if vok v && (cellsOf v).length == size && off + size ≤ cells.length then fillE (splice cells off (cellsOf v)) r else none
def bd (zero : List Value) (parts : List (Nat × Nat × Value)) : Option Value := (fillE zero parts).map fun cs => .agg cs.toArray
/-! ### Values and memory -/
def ld (agg : Bool) (sz : Nat) (a : Value) : M1 := fun s => match a with
  | .pointer (some ⟨h, off, none⟩) => (s.get h).bind fun ob => (rdCells ob off sz).bind fun cs =>
    match agg with
    | true => some (.agg cs.toArray, s)
    | false => match cs with
      | [c] => some (c, s)
      | _ => none
  | _ => none
def sto (sz : Nat) (a v : Value) : M1 := fun s => match a with
  | .pointer (some ⟨h, off, none⟩) => (s.get h).bind fun ob =>
    if ob.own && vok v && (cellsOf v).length == sz && off + sz ≤ ob.cells.length then some (undef, s.put h (some { ob with cells := splice ob.cells off (cellsOf v) })) else none
  | _ => none
def al (z : List Value) : M1 := fun s => some (pt s.n 0, s.push ⟨z, true⟩)
def bx (v : Value) : M1 := fun s => if vok v then some (pt s.n 0, s.push ⟨cellsOf v, true⟩) else none
def reps (n : Nat) (z : List Value) : List Value := (List.replicate n z).flatten
def bs (sz len : Nat) (zero : List Value) (parts : List (Nat × Nat × Value)) : M1 := fun s =>
  (fillE (reps len zero) parts).map fun cs => (sl s.n 0 len sz, s.push ⟨cs, true⟩)
def mk (bytes sz : Nat) (zero : List Value) (len cap : Value) : M1 := fun s => match len, cap with
  | .int .i64 n, .int .i64 c => if 0 ≤ n ∧ c = n ∧ bytes * n ≤ 2 ^ 48 then some (sl s.n 0 n.toNat sz, s.push ⟨reps n.toNat zero, true⟩) else none
  | _, _ => none
/-- What a slice holds. -/
def St.got (s : St) (sz : Nat) : Value → Option (List Value)
  | .slice none _ _ => some []
  | .slice (some ⟨h, off, none⟩) n e => if n = 0 then some [] else if e = sz then (s.get h).bind fun ob => rdCells ob off (n * sz) else none
  | _ => none
def pushB (b : ByteArray) : Value → ByteArray
  | .int _ n => b.push (UInt8.ofNat n.toNat)
  | _ => b
def isByte : Value → Bool
  | .int .u8 _ => true
  | _ => false
def b2s (x : Value) : M1 := fun s => (s.got 1 x).bind fun cs => if cs.all isByte then some (.string (cs.foldl pushB ByteArray.empty), s) else none
def ap (sz bytes : Nat) (x y : Value) : M1 := fun s => (s.got sz y).bind fun new =>
  match x with
  | .slice none _ _ => match new with
    | [] => some (nl, s)
    | c :: cs => if (c :: cs).length / sz * bytes ≤ 2 ^ 47 then some (sl s.n 0 ((c :: cs).length / sz) sz, s.push ⟨c :: cs, true⟩) else none
  | .slice (some ⟨h, off, none⟩) n e => (s.get h).bind fun ob => (rdCells ob off (n * sz)).bind fun old =>
    if decide ((n + new.length / sz) * bytes ≤ 2 ^ 47) && ob.own && e == sz && (match y with
      | .slice (some b) m _ => m == 0 || b.block != h || decide (off + (n + m) * sz ≤ ob.cells.length)
      | _ => true) then some (sl s.n 0 (n + new.length / sz) sz, (s.put h none).push ⟨old ++ new, true⟩) else none
  | _ => none
/-! ### The operations -/
inductive Stp where
  | val (v : Value)
  | pure (r : Option Value)
  | rd (w : Value) (g : M1)
  | al (g : M1)
  | mu (g : M1)
  | call (f : FuncId) (args : List Value)
/-- A constant that points nowhere. -/
def constC : Value → Bool
  | .bool _ | .int _ _ | .string _ | .pointer none | .slice none 0 0 => true
  | _ => false
def constV : Value → Value
  | .bool b => .bool b
  | .int k n => .int k n
  | .string s => .string s
  | .pointer none => .pointer none
  | .slice none 0 0 => .slice none 0 0
  | .agg cs => if cs.toList.all constC then .agg cs else wild
  | _ => wild
def ev (env : Env) : Operand → Value
  | .tmp t => lk env t
  | .const v => constV v
  | _ => wild
def szT (P : Program) (t : TypeId) : Option Nat := (P.info? t).map (·.size)
def isAggD : TypeDesc → Bool
  | .struct _ | .array _ _ => true
  | _ => false
def aggT (P : Program) (t : TypeId) : Option Bool := (P.underlying t).map isAggD
/-- The zero of a type, with its size: they fit. -/
def zeroT (P : Program) (t : TypeId) : Option (List Value × Nat × Nat) := (P.info? t).bind fun i => i.zero.bind fun z =>
  if (cellsOf z).length == i.size && (cellsOf z).all constC then some (cellsOf z, i.size, i.bytes) else none
def partsS (P : Program) (env : Env) (fields : Array Field) : List (Nat × Operand) → Option (List (Nat × Nat × Value))
  | [] => some []
  | (i, x) :: r => (fields[i]?).bind fun f => (szT P f.type).bind fun sz => (partsS P env fields r).map fun l => (f.offset, sz, ev env x) :: l
def partsL (env : Env) (sz : Nat) : List (Nat × Operand) → List (Nat × Nat × Value)
  | [] => []
  | (i, x) :: r => (i * sz, sz, ev env x) :: partsL env sz r
def fieldsOk (P : Program) (fields : Array Field) : Bool := fields.all fun f => (szT P f.type).isSome
def opOf (P : Program) (env : Env) (o : Oper) : Option Stp := match o.op with
  | .move x | .assign x => some (.val (ev env x))
  | .pick c a b => some (.pure (pk (ev env c) (ev env a) (ev env b)))
  | .alloc t => (zeroT P t).map fun z => .al (al z.1)
  | .box _ x => some (.al (bx (ev env x)))
  | .build t parts => (zeroT P t).bind fun z => match P.underlying t with
    | some (.struct fields) => if fieldsOk P fields then (partsS P env fields parts.toList).map fun ps => .pure (bd z.1 ps) else none
    | some (.array _ e) => (szT P e).map fun sz => .pure (bd z.1 (partsL env sz parts.toList))
    | _ => none
  | .buildSlice t len parts => match P.underlying t with
    | some (.slice e) => (zeroT P e).bind fun z => if 0 < z.2.1 && len * z.2.1 ≤ 2 ^ 24 then some (.al (bs z.2.1 len z.1 (partsL env z.2.1 parts.toList))) else none
    | _ => none
  | .load t a => (szT P t).bind fun sz => (aggT P t).map fun ag => .rd (ev env a) (ld ag sz (ev env a))
  | .store t a v => (szT P t).map fun sz => .mu (sto sz (ev env a) (ev env v))
  | .nilCheck x => some (.pure (nc (ev env x)))
  | .binOp op t x y _ => match P.underlying t with
    | some (.int _) => some (.pure (bnI op (ev env x) (ev env y)))
    | some .string => some (.pure (bnS op (ev env x) (ev env y)))
    | some .bool => some (.pure (bnB op (ev env x) (ev env y)))
    | some (.pointer _) => some (.pure (bnP op (ev env x) (ev env y)))
    | some (.struct _) => some (.pure (bnA P op t (ev env x) (ev env y)))
    | _ => none
  | .unOp op _ x => some (.pure (un op (ev env x)))
  | .convert src dst x => match P.underlying src, P.underlying dst with
    | some (.int _), some (.int k) => some (.pure (cvI k (ev env x)))
    | some (.slice e), some .string => match P.underlying e with
      | some (.int .u8) => some (.rd (ev env x) (b2s (ev env x)))
      | _ => none
    | _, _ => none
  | .makeSlice t l c => match P.underlying t with
    | some (.slice e) => (zeroT P e).bind fun z => if 0 < z.2.1 && 0 < z.2.2 then some (.al (mk z.2.2 z.2.1 z.1 (ev env l) (ev env c))) else none
    | _ => none
  | .slice t x lo hi none => match P.underlying t with
    | some .string => some (.pure (scS (ev env x) (lo.map (ev env)) (hi.map (ev env))))
    | some (.slice e) => (szT P e).map fun sz => .pure (scL sz (ev env x) (lo.map (ev env)) (hi.map (ev env)))
    | _ => none
  | .fieldAddr t x i => match P.underlying t with
    | some (.struct fields) => (fields[i]?).bind fun f => (szT P f.type).bind fun sz => if sz = 0 then none else some (.pure (fa f.offset (ev env x)))
    | _ => none
  | .indexAddr t x i => match P.underlying t with
    | some (.slice e) => (szT P e).map fun sz => .pure (ia sz (ev env x) (ev env i))
    | some (.array n e) => (szT P e).map fun sz => .pure (iaA n sz (ev env x) (ev env i))
    | _ => none
  | .index t x i => match P.underlying t with
    | some .string => some (.pure (ix (ev env x) (ev env i)))
    | _ => none
  | .extract x i => some (.pure (ex (ev env x) i))
  | .call c => match c.callee with
    | .value (.func f) => match (P.funcs[f]?).bind (·.body) with
      | some _ => if ((P.funcs[f]?).map (·.name)).getD "" == "runtime.NumGoroutine" then none else some (.call f (c.args.toList.map (ev env)))
      | none => none
    | .builtin .len => match c.argTypes.toList, c.args.toList with
      | [t], [x] => match P.underlying t with
        | some .string => some (.pure (lnS (ev env x)))
        | some (.slice _) => some (.pure (lnL (ev env x)))
        | _ => none
      | _, _ => none
    | .builtin .min => match c.args.toList with
      | [x, y] => some (.pure (mn (ev env x) (ev env y)))
      | _ => none
    | .builtin .append => match c.argTypes.toList, c.args.toList with
      | [t, u], [x, y] => if t == u then match P.underlying t with
        | some (.slice e) => (zeroT P e).bind fun z => if 0 < z.2.1 && 0 < z.2.2 then some (.mu (ap z.2.1 z.2.2 (ev env x) (ev env y))) else none
        | _ => none
        else none
      | _, _ => none
    | _ => none
  | _ => none
/-! ### What goes on: places, relation -/
structure Pl where
  b : Nat
  o : Nat
  sz : Nat
  own : Bool
abbrev Rho := Nat → Option Pl
/-- A cell of the engine and a cell of the machine. -/
def CR (ρ : Rho) : Value → Value → Prop
  | .pointer (some ⟨h, off, none⟩), u => ∃ p, ρ h = some p ∧ u = .pointer (some ⟨p.b, p.o + off, none⟩)
  | .pointer none, u => u = .pointer none
  | .slice (some ⟨h, off, none⟩) n e, u => ∃ p a c, ρ h = some p ∧ u = .slice a n c ∧ n ≤ c ∧ (n ≠ 0 → a = some ⟨p.b, p.o + off, none⟩) ∧
      (p.own = true → p.o + off + c * e = p.sz ∧ ∃ o', a = some ⟨p.b, o', none⟩ ∧ o' ≤ p.sz ∧ (c ≠ 0 → o' = p.o + off))
  | .slice none n _, u => n = 0 ∧ u = .slice none 0 0
  | .bool b, u => u = .bool b
  | .int k n, u => u = .int k n
  | .string s, u => u = .string s
  | _, _ => False
def All2 (R : Value → Value → Prop) : List Value → List Value → Prop
  | [], [] => True
  | x :: xs, y :: ys => R x y ∧ All2 R xs ys
  | _, _ => False
/-- A value: a cell, a struct, -/
def V2 (ρ : Rho) : Value → Value → Prop
  | .nilFunc, _ => True
  | .agg cs, u => ∃ ds, u = .agg ds ∧ All2 (CR ρ) cs.toList ds.toList
  | .tuple _, _ => False
  | v, u => CR ρ v u
/-- or more than one result. -/
def VR (ρ : Rho) : Value → Value → Prop
  | .tuple vs, u => ∃ us, u = .tuple us ∧ All2 (V2 ρ) vs.toList us.toList
  | v, u => V2 ρ v u
def Con (B0 : Nat) (ρ : Rho) (W : World) (p : Pl) (ob : Ob) : Prop :=
  ob.own = p.own ∧ (∀ i x, ob.cells[i]? = some x → ∃ u, W.cell? ⟨p.b, p.o + i, none⟩ = some u ∧ CR ρ x u) ∧
  (p.own = true → B0 ≤ p.b ∧ ∃ cs e, W.heap[p.b]? = some (.cells cs e (0, 0)) ∧ cs.size = p.sz ∧ p.o + ob.cells.length ≤ p.sz) ∧
  (p.own = false → ob.cells = [] ∨ p.b < B0)
structure Ctx where
  P : Program
  w0 : World
structure Rel (C : Ctx) (ρ : Rho) (s : St) (W : World) : Prop where
  con : ∀ h p ob, ρ h = some p → s.get h = some ob → Con C.w0.heap.size ρ W p ob
  inj : ∀ h h' p p' ob ob', ρ h = some p → ρ h' = some p' → s.get h = some ob → s.get h' = some ob' → p.own = true → p'.own = true → p.b = p'.b → h = h'
  bel : Below C.w0.heap.size C.w0 W
def OwnBlk (ρ : Rho) (s : St) (k : Nat) : Prop := ∃ h p ob, ρ h = some p ∧ s.get h = some ob ∧ p.own = true ∧ p.b = k
def Sub (ρ ρ' : Rho) : Prop := ∀ h p, ρ h = some p → ρ' h = some p
/-- No place yet from m to n. -/
def Free (ρ : Rho) (m n : Nat) : Prop := ∀ h, m ≤ h → h < n → ρ h = none
/-- One way on. -/
structure Way (ρ : Rho) (s : St) (W : World) (ρ' : Rho) (s' : St) (W' : World) : Prop where
  n : s.n ≤ s'.n
  sub : Sub ρ ρ'
  agree : ∀ h, (h < s.n ∨ s'.n ≤ h) → ρ' h = ρ h
  size : W.heap.size ≤ W'.heap.size
  frame : ∀ k, k < W.heap.size → ¬ OwnBlk ρ s k → W'.heap[k]? = W.heap[k]?
  own : ∀ k, k < W.heap.size → OwnBlk ρ' s' k → OwnBlk ρ s k
/-- The call of f makes v of these arguments, and of the memory s the memory s'. -/
def Goes (C : Ctx) (f : FuncId) (args : List Value) (s : St) (v : Value) (s' : St) : Prop :=
  s.n ≤ s'.n ∧ ∀ ρ W vs, Free ρ s.n s'.n → Rel C ρ s W → All2 (VR ρ) args vs → Calls C.P f vs.toArray W fun
    | .returned u, W' => ∃ ρ', Way ρ s W ρ' s' W' ∧ Rel C ρ' s' W' ∧ VR ρ' v u
    | .outgrown, _ => False
    | .panicked _, _ => False
/-! ### The words of a function's text -/
def pr (r : Option Value) (K : Value → Q) : Q := fun s => ∃ v, r = some v ∧ K v s
def mm (g : M1) (K : Value → Q) : Q := fun s => ∃ v s', g s = some (v, s') ∧ K v s'
def cl (C : Ctx) (f : FuncId) (args : List Value) (K : Value → Q) : Q := fun s => ∃ v s', Goes C f args s v s' ∧ K v s'
/-- An operation behind a guard. -/
def gM (g : Value) (want : Bool) (m : (Value → Q) → Q) (K : Value → Q) : Q := fun s =>
  (g = .bool want ∧ m K s) ∨ ((g = .bool !want ∨ g = undef) ∧ K undef s)
def cnd (g : Value) (p q : Q) : Q := fun s => (g = .bool true ∧ p s) ∨ (g = .bool false ∧ q s)
def joinM (f : List Value → Q) (g : (List Value → Q) → Q) : Q := g f
def loopM (F : (List Value → Q) → List Value → Q) (xs : List Value) : Q := fun s => ∀ R : List Value → Q, (∀ xs s, F R xs s → R xs s) → R xs s
def handle : Value → Option Nat
  | .pointer (some a) => some a.block
  | .slice (some a) _ _ => some a.block
  | _ => none
/-- What v points to is in s' as in s. -/
def unch (v : Value) (s s' : St) : Prop := ∀ h, handle v = some h → s'.get h = s.get h
/-- A writer: the rows of ws are as they were. -/
def mon (ws : List Value) (m : (Value → Q) → Q) (K : Value → St → St → Q) : Q := fun s => m (fun v s' => (∀ w ∈ ws, unch w s s') ∧ K v s s' s') s
def gN (g : Value) (want : Bool) (m : (Value → St → St → Q) → Q) (K : Value → St → St → Q) : Q := fun s =>
  (g = .bool want ∧ m K s) ∨ ((g = .bool !want ∨ g = undef) ∧ K undef s s s)
/-- A reader: what it reads is as it was before those writers. -/
def sam (w : Value) (l : List (St × St)) (q : Q) : Q := fun s => (∀ x ∈ l, unch w x.1 x.2) ∧ q s
/-! ### The code's meaning -/
inductive Ex where
  | nor
  | ext (id : Nat)
  | rt
abbrev Kap := Ex → Env → Q
def putE (dst : Option Tmp) (v : Value) (env : Env) : Env := match dst with
  | some d => (d, v) :: env
  | none => env
def stpQ (C : Ctx) : Stp → (Value → Q) → Q
  | .val v, K => K v
  | .pure r, K => pr r K
  | .rd _ g, K => mm g K
  | .al g, K => mm g K
  | .mu g, K => mm g K
  | .call f args, K => cl C f args K
def oneOp (C : Ctx) (env : Env) (o : Oper) (K : Value → Q) : Q := match opOf C.P env o with
  | some st => stpQ C st K
  | none => fun _ => False
def dstOf (ops : Array Oper) (j : Nat) : Option Tmp := (ops[j]?).bind (·.dst)
def gdd (ops : Array Oper) (env : Env) (o : Oper) (m : (Value → Q) → Q) (K : Value → Q) : Q := match o.guard with
  | none => m K
  | some (j, want) => match dstOf ops j with
    | some t => gM (lk env t) want m K
    | none => fun _ => False
def runOps (C : Ctx) (ops : Array Oper) : List Oper → Env → (Env → Q) → Q
  | [], env, K => K env
  | o :: r, env, K => gdd ops env o (oneOp C env o) fun v => runOps C ops r (putE o.dst v env) K
/-- Two operations of a region in no order. -/
def unord (L : List Nat) (i j : Nat) : Bool := !((L.getD i 0).testBit j) && !((L.getD j 0).testBit i)
def picks {α : Type} (L : List Nat) (i : Nat) : List (Nat × α) → List α
  | [] => []
  | (j, x) :: r => match unord L i j with
    | true => x :: picks L i r
    | false => picks L i r
def isMu : Stp → Bool
  | .mu _ | .call _ _ => true
  | _ => false
/-- Is there one of the readers and makers with which i is in no order? -/
def mets (P : Program) (L : List Nat) (i : Nat) : Nat → List Oper → Bool
  | _, [] => false
  | j, o :: r => (match o.op with
    | .load _ _ | .alloc _ | .box _ _ | .buildSlice _ _ _ | .makeSlice _ _ _ => unord L i j && !(i == j)
    | .convert _ _ _ => unord L i j && !(i == j)
    | _ => false) || mets P L i (j + 1) r
def samK (w : Value) (l : List (St × St)) (g : M1) : (Value → Q) → Q := match l with
  | [] => mm g
  | _ :: _ => fun K => sam w l (mm g K)
def drawOps (C : Ctx) (ops : Array Oper) (L : List Nat) : Nat → List Oper → Env → List (Nat × Value) → List (Nat × St × St) → (Env → Q) → Q
  | _, [], env, _, _, K => K env
  | i, o :: r, env, past, pend, K => match opOf C.P env o with
    | none => fun _ => False
    | some st => match st with
      | .rd w g => gdd ops env o (samK w (picks L i pend) g) fun v => drawOps C ops L (i + 1) r (putE o.dst v env) ((i, w) :: past) pend K
      | .al g => gdd ops env o (mm g) fun v => drawOps C ops L (i + 1) r (putE o.dst v env) ((i, v) :: past) pend K
      | .val v => gdd ops env o (fun K' => K' v) fun v => drawOps C ops L (i + 1) r (putE o.dst v env) past pend K
      | .pure x => gdd ops env o (pr x) fun v => drawOps C ops L (i + 1) r (putE o.dst v env) past pend K
      | st => match mets C.P L i 0 ops.toList with
        | false => gdd ops env o (stpQ C st) fun v => drawOps C ops L (i + 1) r (putE o.dst v env) past pend K
        | true => match o.guard with
          | some (j, want) => (match dstOf ops j with
            | some t => gN (lk env t) want (mon (picks L i past) (stpQ C st)) fun v a b => drawOps C ops L (i + 1) r (putE o.dst v env) past ((i, a, b) :: pend) K
            | none => fun _ => False)
          | none => mon (picks L i past) (stpQ C st) fun v a b => drawOps C ops L (i + 1) r (putE o.dst v env) past ((i, a, b) :: pend) K
/-- The masks of what comes before are right, and the operations stand as they must. -/
def maskOf (L : List Nat) (o : Oper) : Nat := o.after.toList.foldl (fun s e => match Region.binds .any e with
  | true => s ||| 2 ^ e.on ||| L.getD e.on 0
  | false => s) 0
def isWriter (o : Oper) : Bool := match o.op with
  | .store _ _ _ => true
  | .call c => (match c.callee with | .builtin .append => true | .builtin _ => false | _ => true)
  | _ => false
def pairOk (L : List Nat) (ops : Array Oper) (i j : Nat) (x y : Oper) : Bool := !(unord L i j) || (Oper.apart ops x y && !(isWriter x && isWriter y))
def lateOk (L : List Nat) (ops : Array Oper) (i : Nat) (x : Oper) : Nat → List Oper → Bool
  | _, [] => true
  | j, y :: r => pairOk L ops i j x y && lateOk L ops i x (j + 1) r
def drawOk (L : List Nat) (ops : Array Oper) : Nat → List Oper → Bool
  | _, [] => true
  | i, o :: r => (L.getD i 0 == maskOf L o) && o.after.all (fun e => e.on < i || !(Region.binds .any e)) && lateOk L ops i o (i + 1) r && drawOk L ops (i + 1) r
def bitsOf (m : Nat) : Nat → List Nat
  | 0 => []
  | n + 1 => match m.testBit n with
    | true => bitsOf m n ++ [n]
    | false => bitsOf m n
def proj (L : List Nat) (env : Env) : List Value := L.map (lk env)
def nx (xs : List Value) (i : Nat) : Value := xs.getD i wild
def inj : List Nat → Nat → List Value → Env
  | [], _, _ => []
  | t :: r, i, xs => (t, nx xs i) :: inj r (i + 1) xs
def look : List (Nat × Nat) → Nat → Nat
  | [], _ => 0
  | (a, m) :: r, id => match Nat.beq a id with
    | true => m
    | false => look r id
def clr (m t : Nat) : Nat := match m.testBit t with
  | true => m - 2 ^ t
  | false => m
def setB (m t : Nat) : Nat := m ||| 2 ^ t
def liveOps : List Oper → Nat → Array Oper → Nat
  | [], lo, _ => lo
  | o :: r, lo, ops =>
    let lo := liveOps r lo ops
    let lo := match o.dst with | some d => clr lo d | none => lo
    let lo := match o.guard with | some (j, _) => (match dstOf ops j with | some t => setB lo t | none => lo) | none => lo
    o.op.operands.toList.foldl (fun m x => match x with | .tmp t => setB m t | _ => m) lo
def live (rm : Nat) : Code → Nat → List (Nat × Nat) → Nat
  | .skip, lo, _ => lo
  | .region _ ops _, lo, _ => liveOps ops.toList lo ops
  | .seq a b, lo, exs => live rm a (live rm b lo exs) exs
  | .cond c x y, lo, exs => (match c with | .tmp t => setB (live rm x lo exs ||| live rm y lo exs) t | _ => live rm x lo exs ||| live rm y lo exs)
  | .block id c, lo, exs => live rm c lo ((id, lo) :: exs)
  | .loop c, _, exs => live rm c (live rm c 0 exs) exs
  | .exit id, _, exs => look exs id
  | .ret, _, _ => rm
  | _, _, _ => 0
/-- How many ways lead to the end of the code; to the exit id. -/
def exits (id : Nat) : Code → Nat
  | .seq a b => exits id a + exits id b
  | .cond _ x y => exits id x + exits id y
  | .block _ c => exits id c
  | .loop c => exits id c
  | .exit i => match Nat.beq i id with | true => 1 | false => 0
  | _ => 0
def ends : Code → Nat
  | .seq _ b => ends b
  | .cond _ x y => ends x + ends y
  | .block id c => ends c + exits id c
  | .skip => 1
  | .region _ _ _ => 1
  | _ => 0
def lookL : List (Nat × List Nat) → Nat → Option (List Nat)
  | [], _ => none
  | (a, m) :: r, id => match Nat.beq a id with
    | true => some m
    | false => lookL r id
def blkK (id : Nat) (κ : Kap) : Kap := fun e => match e with
  | .ext i => match Nat.beq i id with
    | true => κ .nor
    | false => κ (.ext i)
  | .nor => κ .nor
  | .rt => κ .rt
def thenK (f : Env → Q) (κ : Kap) : Kap := fun e => match e with
  | .nor => f
  | .ext i => κ (.ext i)
  | .rt => κ .rt
def exec (C : Ctx) (an : List (Nat × List Nat)) (rm nt : Nat) : Code → Env → Nat → List (Nat × Nat) → Kap → Q
  | .skip, env, _, _, κ => κ .nor env
  | .region id ops false, env, _, _, κ => runOps C ops ops.toList env (κ .nor)
  | .region id ops true, env, _, _, κ => match lookL an id with
    | none => fun _ => False
    | some L => match drawOk L ops 0 ops.toList with
      | true => drawOps C ops L 0 ops.toList env [] [] (κ .nor)
      | false => fun _ => False
  | .seq a b, env, lo, exs, κ =>
    let lb := live rm b lo exs
    match Nat.ble (ends a) 1 with
    | true => exec C an rm nt a env lb exs (thenK (fun env' => exec C an rm nt b env' lo exs κ) κ)
    | false => joinM (fun xs => exec C an rm nt b (inj (bitsOf lb nt) 0 xs) lo exs κ) fun j =>
        exec C an rm nt a env lb exs (thenK (fun env' => j (proj (bitsOf lb nt) env')) κ)
  | .cond c x y, env, lo, exs, κ => cnd (ev env c) (exec C an rm nt x env lo exs κ) (exec C an rm nt y env lo exs κ)
  | .block id c, env, lo, exs, κ => exec C an rm nt c env lo ((id, lo) :: exs) (blkK id κ)
  | .loop c, env, _, exs, κ =>
    let ll := live rm (.loop c) 0 exs
    loopM (fun self xs => exec C an rm nt c (inj (bitsOf ll nt) 0 xs) ll exs (thenK (fun env' => self (proj (bitsOf ll nt) env')) κ)) (proj (bitsOf ll nt) env)
  | .exit id, env, _, _, κ => κ (.ext id) env
  | .ret, env, _, _, κ => κ .rt env
  | _, _, _, _, _ => fun _ => False
def args0 : Nat → List Value → Env
  | _, [] => []
  | i, v :: r => (i, v) :: args0 (i + 1) r
def resT : ResultVar → Tmp
  | .tmp t => t
  | .cell t _ => t
def notTup : Value → Bool
  | .tuple _ => false
  | _ => true
/-- More results than one: none of them is a bundle. -/
def ntp (vs : List Value) (q : Q) : Q := fun s => vs.all notTup = true ∧ q s
def retQ (P : Program) : List ResultVar → List Value → Env → (Value → Q) → Q
  | [], acc, _, K => match acc with
    | [v] => K v
    | vs => ntp vs (K (.tuple vs.toArray))
  | .tmp t :: r, acc, env, K => retQ P r (acc ++ [lk env t]) env K
  | .cell a t :: r, acc, env, K => match szT P t, aggT P t with
    | some sz, some ag => mm (ld ag sz (lk env a)) fun v => retQ P r (acc ++ [v]) env K
    | _, _ => fun _ => False
def resM (rs : List ResultVar) : Nat := rs.foldl (fun m r => setB m (resT r)) 0
def runF (C : Ctx) (an : List (Nat × List Nat)) (fn : Func) (args : List Value) (K : Value → Q) : Q :=
  match fn.body with
  | some c => exec C an (resM fn.results.toList) fn.ntmps c (args0 0 args) (resM fn.results.toList) [] (fun e env => match e with
      | .ext _ => fun _ => False
      | .nor => retQ C.P fn.results.toList [] env K
      | .rt => retQ C.P fn.results.toList [] env K)
  | none => fun _ => False
/-- Each place that the code writes is one of the call's. -/
def opsFit (nt : Nat) (ops : Array Oper) : Bool := ops.all fun o => match o.dst with
  | some d => Nat.blt d nt
  | none => true
def fits (nt : Nat) : Code → Bool
  | .region _ ops _ => opsFit nt ops
  | .seq a b => fits nt a && fits nt b
  | .cond _ x y => fits nt x && fits nt y
  | .block _ c => fits nt c
  | .loop c => fits nt c
  | _ => true
def fnFits (fn : Func) (n : Nat) : Bool := Nat.ble n fn.ntmps && match fn.body with
  | some c => fits fn.ntmps c
  | none => false
end Go.Proofs.Ytmikdglafmfnfaa.Eng
