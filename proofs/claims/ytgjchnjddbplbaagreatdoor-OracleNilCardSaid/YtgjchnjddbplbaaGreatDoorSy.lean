/- A symbolic evaluator of the model's code, and the proof that what it computes is what a call gives, under no condition but those that each theorem names. -/
import Derived.WalkKit
import Derived.ChangeKeysEq
import Derived.Laws.StructEq
import Derived.Laws.AppendOwn
import Derived.Orders
import Derived.ProofKit
namespace Go.Sx

inductive AV where
  | val (v : Value)
  | ptr (id off : Nat)
  | slc (id off len k : Nat)
  | fn (f : Fn) (first captured : List AV)
  | agg (cs : List AV)
  | tup (cs : List AV)
  | junk
  deriving Inhabited

inductive T (α : Type) where
  | ret (a : α)
  | ite (b : Bool) (t e : T α)
  /-- An expectation: the way goes on only if it is met. -/
  | asm (b : Bool) (t : T α)
  /-- A test of which both ways are to be walked. -/
  | both (b : Bool) (t e : T α)
  | fail

def T.bind {α β : Type} : T α → (α → T β) → T β
  | .ret a, k => k a
  | .ite b t e, k => .ite b (t.bind k) (e.bind k)
  | .asm b t, k => .asm b (t.bind k)
  | .both b t e, k => .both b (t.bind k) (e.bind k)
  | .fail, _ => .fail

def T.leaf {α : Type} : T α → Option α
  | .ret a => some a
  | .ite b t e => cond b t.leaf e.leaf
  | .asm b t => cond b t.leaf none
  | .both b t e => cond b t.leaf e.leaf
  | .fail => none

/-- What is expected on the way. -/
def T.asms {α : Type} : T α → List Bool
  | .ret _ => []
  | .ite b t e => cond b t.asms e.asms
  | .asm b t => b :: t.asms
  | .both _ t e => t.asms ++ e.asms
  | .fail => []

/-- Does what comes out have a property on every way, if all is as expected? -/
def T.every {α : Type} (p : α → Bool) : T α → Bool
  | .ret a => p a
  | .ite b t e => cond b (t.every p) (e.every p)
  | .asm _ t => t.every p
  | .both _ t e => cond (t.every p) (e.every p) false
  | .fail => false

theorem T.leaf_of {α : Type} {p : α → Bool} : (t : T α) → (t.asms.all fun b => b) = true → t.every p = true → ∃ a, t.leaf = some a ∧ p a = true
  | .ret a, _, h => ⟨a, rfl, h⟩
  | .ite b t e, h, k => by
    cases b
    · exact T.leaf_of e h k
    · exact T.leaf_of t h k
  | .asm b t, h, k => by
    simp only [T.asms, List.all_cons, Bool.and_eq_true] at h
    cases b
    · exact absurd h.1 (by simp)
    · exact T.leaf_of t h.2 k
  | .both b t e, h, k => by
    simp only [T.asms, List.all_append, Bool.and_eq_true] at h
    have k2 : t.every p = true ∧ e.every p = true := by
      simp only [T.every] at k
      cases ht : t.every p <;> simp_all
    cases b
    · exact T.leaf_of e h.2 k2.2
    · exact T.leaf_of t h.1 k2.1
  | .fail, _, h => by simp [T.every] at h

def lk {α : Type} : List (Nat × α) → Nat → Option α
  | [], _ => none
  | (i, a) :: r, n => cond (Nat.beq i n) (some a) (lk r n)

abbrev AH := List (Nat × Option (List AV))
abbrev AM := List (Nat × AV)

/-- What an operation's value is expected to be. -/
inductive Hint where
  | int (n : Int)
  | bool (b : Bool)
  /-- A truth value of which both are walked. -/
  | split

abbrev Hints := FuncId → Nat → Nat → Option Hint

structure St where
  f : FuncId
  hint : Hints
  tmps : AM
  rw : AH
  ro : AH
  p : Nat
  next : Nat
  n : Nat

inductive Ex where
  | normal
  | exit (id : Nat)
  | ret

def ofConst : Value → AV
  | .agg cs => .agg (cs.toList.map .val)
  | .tuple cs => .tup (cs.toList.map .val)
  | v => .val v

def St.h (s : St) : AH := s.rw ++ s.ro

def ev (s : St) : Operand → Option AV
  | .tmp t => lk s.tmps t
  | .const v => some (ofConst v)
  | .global g => cond (Nat.blt g 900) (match lk s.h g with
    | some (some _) => some (.ptr g 0)
    | _ => none) none
  | .func f => some (.fn (.func f) [] [])

def AV.cells : AV → List AV
  | .agg cs => cs
  | v => [v]

/-- Is it the value of one cell? -/
def AV.one : AV → Bool
  | .val (.agg _) | .val (.tuple _) | .agg _ | .tup _ | .junk => false
  | _ => true

/-- May its cells be counted? -/
def AV.flat : AV → Bool
  | .agg _ => true
  | v => v.one

def pureRun {α : Type} (P : Program) : Sem α → Option α
  | .pure a => some a
  | .program k => pureRun P (k P)
  | _ => none

def isAgg? (P : Program) (t : TypeId) : Option Bool :=
  match P.underlying t with
  | some (.struct _) | some (.array _ _) => some true
  | some _ => some false
  | none => none

def size? (P : Program) (t : TypeId) : Option Nat := (P.info? t).map (·.size)

def partOf (P : Program) (t : TypeId) (cs : List AV) (off : Nat) : Option AV :=
  match isAgg? P t, size? P t with
  | some true, some n => cond (Nat.ble (off + n) cs.length) (some (.agg ((cs.drop off).take n))) none
  | some false, _ => cs[off]?
  | _, _ => none

def putCells : List AV → Nat → List AV → Option (List AV)
  | cs, 0, [] => some cs
  | _ :: cs, 0, v :: vs => (putCells cs 0 vs).map (v :: ·)
  | c :: cs, n + 1, vs => (putCells cs n vs).map (c :: ·)
  | [], _, _ => none

def fillA (place : Nat → Option (Nat × Nat)) (cs : List AV) : List (Nat × AV) → Option (List AV)
  | [] => some cs
  | (i, v) :: r =>
    match place i with
    | none => none
    | some (off, n) =>
      cond (v.flat && Nat.beq v.cells.length n)
        (match putCells cs off v.cells with
         | some cs' => fillA place cs' r
         | none => none) none

def zeroA (P : Program) (t : TypeId) : Option (List AV) :=
  match P.info? t with
  | some i => i.zero.map fun z => z.cells.toList.map .val
  | none => none

def evAll (s : St) : List Operand → Option (List AV)
  | [] => some []
  | x :: r => match ev s x, evAll s r with
    | some a, some l => some (a :: l)
    | _, _ => none

def evParts (s : St) : List (Nat × Operand) → Option (List (Nat × AV))
  | [] => some []
  | (i, x) :: r => match ev s x, evParts s r with
    | some a, some l => some ((i, a) :: l)
    | _, _ => none

def sizesOf (P : Program) : List Field → Option (List (Nat × Nat))
  | [] => some []
  | f :: r => match size? P f.type, sizesOf P r with
    | some n, some l => some ((f.offset, n) :: l)
    | _, _ => none

def buildA (P : Program) (t : TypeId) (ps : List (Nat × AV)) : Option AV :=
  match zeroA P t, P.underlying t with
  | some z, some (.struct fs) => match sizesOf P fs.toList with
    | some l => (fillA (fun i => l[i]?) z ps).map .agg
    | none => none
  | some z, some (.array _ e) => match size? P e with
    | some n => (fillA (fun i => some (i * n, n)) z ps).map .agg
    | none => none
  | _, _ => none

def repl {α : Type} : Nat → List α → List α
  | 0, _ => []
  | n + 1, l => l ++ repl n l

def buildSliceA (P : Program) (t : TypeId) (len : Nat) (ps : List (Nat × AV)) : Option (List AV × Nat) :=
  match P.underlying t with
  | some (.slice e) => match size? P e, zeroA P e with
    | some n, some z => cond (Nat.ble (len * n) 4096 && Nat.beq z.length n && Nat.blt 0 (len * n)) ((fillA (fun i => some (i * n, n)) (repl len z) ps).map fun cs => (cs, n)) none
    | _, _ => none
  | _ => none

/-- One of the first numbers: which one an Int is. -/
def pickIx {β : Type} (i : Int) (k : Nat → T β) : Nat → Nat → T β
  | 0, _ => .fail
  | n + 1, j => .ite (i == (j : Int)) (k j) (pickIx i k n (j + 1))

def andT : Option Bool → Option Bool → Option Bool
  | some a, some b => some (cond a b false)
  | _, _ => none

def eqItemsA (f : AV → AV → Option Bool) (P : Program) (e : TypeId) (n : Nat) (xs ys : List AV) : List Nat → Option Bool
  | [] => some true
  | j :: is => match partOf P e xs (j * n), partOf P e ys (j * n) with
    | some a, some b => andT (f a b) (eqItemsA f P e n xs ys is)
    | _, _ => none

def eqFieldsA (f : TypeId → AV → AV → Option Bool) (P : Program) (xs ys : List AV) : List Field → Option Bool
  | [] => some true
  | g :: r => cond (g.name != "_") (match partOf P g.type xs g.offset, partOf P g.type ys g.offset with
    | some a, some b => andT (f g.type a b) (eqFieldsA f P xs ys r)
    | _, _ => none) (eqFieldsA f P xs ys r)

/-- Equality of two values of a type, cell by cell. -/
def eqA (P : Program) : Nat → TypeId → AV → AV → Option Bool
  | 0, _, _, _ => none
  | d + 1, t, x, y =>
    match P.underlying t, x, y with
    | some .bool, .val (.bool a), .val (.bool b) => some (a == b)
    | some (.int _), .val (.int k a), .val (.int k' b) => if k = k' then some (a == b) else none
    | some .string, .val (.string a), .val (.string b) => some (a.toList == b.toList)
    | some (.pointer _), .val (.pointer none), .val (.pointer none) => some true
    | some (.pointer _), .val (.pointer none), .ptr _ _ => some false
    | some (.pointer _), .ptr _ _, .val (.pointer none) => some false
    | some (.slice _), .val (.slice a _ _), .val (.slice none _ _) => some a.isNone
    | some (.slice _), .slc _ _ _ _, .val (.slice none _ _) => some false
    | some (.func _ _ _), .fn _ _ _, .val .nilFunc => some false
    | some (.func _ _ _), .val .nilFunc, .val .nilFunc => some true
    | some (.array len e), .agg xs, .agg ys =>
      match size? P e with
      | some n => eqItemsA (fun a b => eqA P d e a b) P e n xs ys (List.range len)
      | none => none
    | some (.struct fs), .agg xs, .agg ys => cond (P.stoodInHeld t) none (eqFieldsA (fun t a b => eqA P d t a b) P xs ys fs.toList)
    | _, _, _ => none

/-- The operators '==', '!=': the test ahead of them, then the values. -/
def eqTop (P : Program) (t : TypeId) (x y : AV) : Option Bool :=
  match x, y with
  | .val (.int k a), .val (.int k' b) => if k = k' then some (a == b) else none
  | .val (.string a), .val (.string b) => some (a.toList == b.toList)
  | .agg xs, .agg ys => cond (P.eqGuardType P.depth t) none (eqA P 100 t (.agg xs) (.agg ys))
  | .val (.bool a), y => eqA P 100 t (.val (.bool a)) y
  | .val (.pointer none), y => eqA P 100 t (.val (.pointer none)) y
  | .ptr i o, y => eqA P 100 t (.ptr i o) y
  | .val (.slice a n c), y => eqA P 100 t (.val (.slice a n c)) y
  | .slc i o n k, y => eqA P 100 t (.slc i o n k) y
  | .fn f a b, y => eqA P 100 t (.fn f a b) y
  | .val .nilFunc, y => eqA P 100 t (.val .nilFunc) y
  | _, _ => none

/-- What one operation gives: a value, and blocks that are new or turned. -/
abbrev Res := AV × AH

def T.opt {α : Type} : Option α → T α
  | some a => .ret a
  | none => .fail

def one (x : Option AV) : T Res := match x with
  | some a => .ret (a, [])
  | none => .fail

/-- A new block: its number is the operation's own. -/
def newB (id : Nat) (cs : List AV) (v : AV) : T Res := .ret (v, [(id, some cs)])

def lenA (P : Program) (t : TypeId) (x : AV) : Option Int :=
  match P.underlying t, x with
  | some (.slice _), .slc _ _ n _ => some n
  | some (.slice _), .val (.slice _ n _) => some n
  | some .string, .val (.string s) => some s.size
  | some (.array n _), _ => some n
  | _, _ => none

/-- The bounds of a slice expression that are numerals. -/
def bnd (s : St) : Option Operand → Nat → Option Nat
  | none, d => some d
  | some x, _ => match ev s x with
    | some (.val (.int .i64 (Int.ofNat n))) => some n
    | _ => none

def vals : List AV → Option (List Value)
  | [] => some []
  | .val v :: r => match vals r with
    | some l => some (v :: l)
    | none => none
  | _ :: _ => none

/-- What a slice holds. -/
def newsA (s : St) (k : Nat) : AV → Option (Nat × List AV)
  | .val (.slice none 0 0) => some (0, [])
  | .slc b off n k' => match lk s.h b with
    | some (some cs) => cond (Nat.beq k' k && Nat.ble (off + n * k) cs.length && ((cs.drop off).take (n * k)).all AV.one) (some (n, (cs.drop off).take (n * k))) none
    | _ => none
  | _ => none

/-- 'append': the slice's own block is turned or left behind: it goes under a new number. -/
def appendA (P : Program) (s : St) (id : Nat) (t : TypeId) (x y : AV) : T Res :=
  match P.underlying t with
  | some (.slice e) => match P.info? e, zeroA P e with
    | some i, some z => match newsA s i.size y with
      | some (0, _) => match x with
        | .val (.slice none 0 0) | .slc _ _ _ _ => .ret (x, [])
        | _ => .fail
      | some (n, news) => cond (Nat.beq z.length i.size && Nat.blt 0 i.size) (match x with
        | .val (.slice none 0 0) => cond (Nat.ble n 1048576 && Nat.ble (n * i.bytes) 1048576) (newB id news (.slc id 0 n i.size)) .fail
        | .slc b 0 len k => match lk s.rw b with
          | some (some cs) => cond (Nat.beq k i.size && Nat.ble (len * k) cs.length && Nat.ble (len + n) 1048576 && Nat.ble ((len + n) * i.bytes) 1048576)
              (.ret (.slc id 0 (len + n) k, [(id, some (cs.take (len * k) ++ news)), (b, none)])) .fail
          | _ => .fail
        | _ => .fail) .fail
      | none => .fail
    | _, _ => .fail
  | _ => .fail

def aop (P : Program) (s : St) (id : Nat) (o : Op) : T Res :=
  match o with
  | .move x | .assign x => one (ev s x)
  | .pick c a b => match ev s c, ev s a, ev s b with
    | some (.val (.bool t)), some x, some y => .ite t (.ret (x, [])) (.ret (y, []))
    | _, _, _ => .fail
  | .alloc e => match zeroA P e with
    | some cs => newB id cs (.ptr id 0)
    | none => .fail
  | .box _ x => match ev s x with
    | some a => cond a.flat (newB id a.cells (.ptr id 0)) .fail
    | none => .fail
  | .build t ps => match evParts s ps.toList with
    | some l => one (buildA P t l)
    | none => .fail
  | .buildSlice t n ps => match evParts s ps.toList with
    | some l => match buildSliceA P t n l with
      | some (cs, k) => newB id cs (.slc id 0 n k)
      | none => .fail
    | none => .fail
  | .load t x => match ev s x with
    | some (.ptr i off) => match lk s.h i with
      | some (some cs) => one (partOf P t cs off)
      | _ => .fail
    | _ => .fail
  | .store t x y => match ev s x, ev s y with
    | some (.ptr i off), some v => match lk s.rw i, size? P t with
      | some (some cs), some n => cond (Nat.beq v.cells.length n && v.cells.all AV.one) (match putCells cs off v.cells with
        | some cs' => .ret (.junk, [(i, some cs')])
        | none => .fail) .fail
      | _, _ => .fail
    | _, _ => .fail
  | .nilCheck x => match ev s x with
    | some (.ptr i off) => .ret (.ptr i off, [])
    | some (.fn (.func f) a b) => .ret (.fn (.func f) a b, [])
    | _ => .fail
  | .fieldAddr t x f => match ev s x, P.underlying t with
    | some (.ptr i off), some (.struct fs) => match fs[f]? with
      | some g => match size? P g.type with
        | some (_ + 1) => .ret (.ptr i (off + g.offset), [])
        | _ => .fail
      | none => .fail
    | _, _ => .fail
  | .field t x f => match ev s x, P.underlying t with
    | some (.agg cs), some (.struct fs) => match fs[f]? with
      | some g => one (partOf P g.type cs g.offset)
      | none => .fail
    | _, _ => .fail
  | .indexAddr t x i => match P.underlying t, ev s x, ev s i with
    | some (.array n e), some (.ptr b off), some (.val (.int _ j)) => match size? P e with
      | some k => pickIx j (fun m => .ret (.ptr b (off + m * k), [])) n 0
      | _ => .fail
    | some (.slice e), some (.slc b off n _), some (.val (.int _ j)) => match size? P e with
      | some k => pickIx j (fun m => .ret (.ptr b (off + m * k), [])) n 0
      | _ => .fail
    | _, _, _ => .fail
  | .index t x i => match P.underlying t, ev s x, ev s i with
    | some (.array n e), some (.agg cs), some (.val (.int _ j)) => match size? P e with
      | some k => pickIx j (fun m => one (partOf P e cs (m * k))) n 0
      | _ => .fail
    | _, _, _ => .fail
  | .extract x i => match ev s x with
    | some (.tup l) => one l[i]?
    | _ => .fail
  | .makeSlice t x y => match P.underlying t, ev s x, ev s y with
    | some (.slice e), some (.val (.int .i64 (Int.ofNat n))), some (.val (.int .i64 (Int.ofNat m))) => match size? P e, zeroA P e, (P.info? e).map (·.bytes) with
      | some k, some z, some b => cond (Nat.beq n m && Nat.ble (n * k) 4096 && Nat.beq z.length k && Nat.ble (b * n) 65536 && Nat.blt 0 (n * k) && Nat.ble n 65536) (newB id (repl n z) (.slc id 0 n k)) .fail
      | _, _, _ => .fail
    | _, _, _ => .fail
  | .binOp .eql t x y _ => match ev s x, ev s y with
    | some a, some b => match eqTop P t a b with
      | some r => .ret (.val (.bool r), [])
      | none => .fail
    | _, _ => .fail
  | .binOp .neq t x y _ => match ev s x, ev s y with
    | some a, some b => match eqTop P t a b with
      | some r => .ret (.val (.bool (!r)), [])
      | none => .fail
    | _, _ => .fail
  | .binOp op t x y _ => match ev s x, ev s y with
    | some (.val a), some (.val b) => one ((pureRun P (Go.binOp op t a b)).map .val)
    | _, _ => .fail
  | .unOp op _ x => match ev s x with
    | some (.val a) => one ((pureRun P (Op.unary op a)).map .val)
    | _ => .fail
  | .convert a b x => match ev s x with
    | some (.val v) => one ((pureRun P (Go.convert a b v)).map .val)
    | _ => .fail
  | .makeFunc f first captured => match evAll s first.toList, evAll s captured.toList with
    | some a, some b => .ret (.fn f a b, [])
    | _, _ => .fail
  | .call { callee := .builtin .len, args := as, argTypes := ts } => match evAll s as.toList, ts[0]? with
    | some [x], some t => match lenA P t x with
      | some n => .ret (.val (.int .i64 n), [])
      | none => .fail
    | _, _ => .fail
  | .call { callee := .builtin .append, args := as, argTypes := ts } => match evAll s as.toList, ts.toList with
    | some [x, y], [t, u] => cond (Nat.beq t u) (appendA P s id t x y) .fail
    | _, _ => .fail
  | .call { callee := .builtin .min, args := as, argTypes := ts } => match evAll s as.toList with
    | some l => match vals l with
      | some vs => one ((pureRun P (Builtin.min_ ts 0 vs.toArray)).map .val)
      | none => .fail
    | none => .fail
  | .call { callee := .builtin .max, args := as, argTypes := ts } => match evAll s as.toList with
    | some l => match vals l with
      | some vs => one ((pureRun P (Builtin.max_ ts 0 vs.toArray)).map .val)
      | none => .fail
    | none => .fail
  | _ => .fail

abbrev CallF := FuncId → List AV → AH → AH → Nat → T Res

def acall (call : CallF) (s : St) (id : Nat) (f : Operand) (args : Array Operand) : T Res :=
  match ev s f, evAll s args.toList with
  | some (.fn (.func g) first captured), some l => call g (first ++ l ++ captured) s.rw s.ro id
  | _, _ => .fail

def stepOp (P : Program) (call : CallF) (s : St) (id : Nat) (o : Op) : T Res :=
  match o with
  | .call { callee := .value f, args := as, .. } => acall call s id f as
  | o => aop P s id o

/-- A call gives the whole of the writable blocks; any other operation what comes in front of them. -/
def isCall : Op → Bool
  | .call { callee := .value _, .. } => true
  | _ => false

def St.put (s : St) (d : Option Tmp) (v : AV) : Option St := match d with
  | some t => cond (Nat.blt t s.n) (some { s with tmps := (t, v) :: s.tmps }) none
  | none => some s

def St.after (s : St) (o : Op) (h : AH) : St := { s with rw := cond (isCall o) h (h ++ s.rw) }

/-- The number of a frame's c-th operation. -/
def idOf (p c : Nat) : Nat := p * 65536 + c

/-- A value that is as expected is known by what was expected. -/
def useHint : Option Hint → AV → T AV
  | some (.int m), .val (.int k n) => .asm (n == m) (.ret (.val (.int k m)))
  | some (.bool b), .val (.bool b') => .asm (b' == b) (.ret (.val (.bool b)))
  | some .split, .val (.bool b) => .both b (.ret (.val (.bool true))) (.ret (.val (.bool false)))
  | _, v => .ret v

/-- One operation that is carried out. -/
def doOp (P : Program) (call : CallF) (s : St) (c : Nat) (o : Oper) : T St :=
  cond (Nat.blt c 65536) ((stepOp P call s (idOf s.p c) o.op).bind fun x => (useHint (s.hint s.f s.p c) x.1).bind fun v => T.opt ((s.after o.op x.2).put o.dst v)) .fail

/-- The operations of a region, in the text's order. -/
def runOps (P : Program) (call : CallF) (ops : Array Oper) : List Oper → Nat → St → T St
  | [], _, s => .ret s
  | o :: r, c, s =>
    match o.guard with
    | none => (doOp P call s c o).bind fun s' => runOps P call ops r (c + 1) s'
    | some (j, want) => match (ops[j]?).bind (·.dst) with
      | some g => match lk s.tmps g with
        | some (.val (.bool b)) =>
          .ite (b == want)
            ((T.opt (s.put (some g) (.val (.bool want)))).bind fun s => (doOp P call s c o).bind fun s' => runOps P call ops r (c + 1) s')
            ((T.opt (s.put (some g) (.val (.bool (!want))))).bind fun s => (T.opt (s.put o.dst (.val undef))).bind fun s' => runOps P call ops r (c + 1) s')
        | some (.val (.tuple _)) => (T.opt (s.put o.dst (.val undef))).bind fun s' => runOps P call ops r (c + 1) s'
        | _ => .fail
      | none => .fail

def iter (body : St → T (Ex × St)) : Nat → St → T (Ex × St)
  | 0, _ => .fail
  | n + 1, s => (body s).bind fun r => match r.1 with
    | .normal => iter body n r.2
    | x => .ret (x, r.2)

def runC (P : Program) (call : CallF) (dr : Array Oper → St → T St) (lf : Nat) : Code → St → T (Ex × St)
  | .skip, s => .ret (.normal, s)
  | .label _, s => .ret (.normal, s)
  | .region _ ops false, s => (runOps P call ops ops.toList s.next s).bind fun s' => .ret (.normal, { s' with next := s.next + ops.size })
  | .region _ ops true, s => (dr ops s).bind fun s' => .ret (.normal, { s' with next := s.next + ops.size })
  | .seq a b, s => (runC P call dr lf a s).bind fun r => match r.1 with
    | .normal => runC P call dr lf b r.2
    | x => .ret (x, r.2)
  | .cond c a b, s => match ev s c with
    | some (.val (.bool t)) => .ite t (runC P call dr lf a s) (runC P call dr lf b s)
    | _ => .fail
  | .block id c, s => (runC P call dr lf c s).bind fun r => match r.1 with
    | .exit i => cond (Nat.beq i id) (.ret (.normal, r.2)) (.ret (.exit i, r.2))
    | x => .ret (x, r.2)
  | .loop c, s => iter (runC P call dr lf c) lf s
  | .exit id, s => .ret (.exit id, s)
  | .scope c, s => runC P call dr lf c s
  | .ret, s => .ret (.ret, s)
  | _, _ => .fail

def resA (P : Program) (s : St) : List ResultVar → Option (List AV)
  | [] => some []
  | .tmp t :: r => match lk s.tmps t, resA P s r with
    | some a, some l => some (a :: l)
    | _, _ => none
  | .cell a t :: r => match lk s.tmps a with
    | some (.ptr i off) => match lk s.h i with
      | some (some cs) => match partOf P t cs off, resA P s r with
        | some x, some l => some (x :: l)
        | _, _ => none
      | _ => none
    | _ => none

def number : List AV → Nat → AM
  | [], _ => []
  | a :: r, i => (i, a) :: number r (i + 1)

def finish (P : Program) (fn : Func) (r : Ex × St) : T Res :=
  match r.1 with
  | .exit _ => .fail
  | _ => match resA P r.2 fn.results.toList with
    | some [a] => .ret (a, r.2.rw)
    | some l => .ret (.tup l, r.2.rw)
    | none => .fail

/-- Calls of functions without a body, and of those of which more is known, by a table of their own; else the body. -/
def callF (P : Program) (hint : Hints) (tab : FuncId → Option CallF) (dr : CallF → Array Oper → St → T St) (lf : Nat) : Nat → CallF
  | 0 => fun _ _ _ _ _ => .fail
  | d + 1 => fun f args rw ro base =>
    match tab f with
    | some g => g f args rw ro base
    | none => match P.funcs[f]? with
      | some fn => match fn.body with
        | some c => cond (Nat.ble args.length fn.ntmps)
            ((runC P (callF P hint tab dr lf d) (dr (callF P hint tab dr lf d)) lf c { f, hint, tmps := number args 0, rw, ro, p := base, next := 0, n := fn.ntmps }).bind (finish P fn)) .fail
        | none => .fail
      | none => .fail

end Go.Sx

/- The evaluator's values and blocks against a world: what is related to what, and how a new block and a store keep it. -/
namespace Go.Sx

structure Reg where
  blk : Nat
  size : Nat

abbrev Env := Nat → Option Reg

mutual
def AVR (β : Env) : AV → Value → Prop
  | .val v, x => x = v
  | .ptr id off, x => ∃ r, β id = some r ∧ x = .pointer (some ⟨r.blk, off, none⟩)
  | .slc id off len k, x => ∃ r cap, β id = some r ∧ x = .slice (some ⟨r.blk, off, none⟩) len cap ∧ len ≤ cap ∧ off + cap * k ≤ r.size
  | .fn f fs cs, x => ∃ fs' cs' : Array Value, x = .func f fs' cs' ∧ AVRs β fs fs'.toList ∧ AVRs β cs cs'.toList
  | .agg cs, x => ∃ vs : Array Value, x = .agg vs ∧ AVRs β cs vs.toList
  | .tup cs, x => ∃ vs : Array Value, x = .tuple vs ∧ AVRs β cs vs.toList
  | .junk, _ => True
def AVRs (β : Env) : List AV → List Value → Prop
  | [], [] => True
  | a :: as, v :: vs => AVR β a v ∧ AVRs β as vs
  | _, _ => False
end

def Ext (β β' : Env) : Prop := ∀ id r, β id = some r → β' id = some r

theorem Ext.refl (β : Env) : Ext β β := fun _ _ h => h
theorem Ext.trans {a b c : Env} (h : Ext a b) (k : Ext b c) : Ext a c := fun i r e => k i r (h i r e)

mutual
theorem AVR.mono {β β' : Env} (h : Ext β β') : ∀ {a : AV} {v : Value}, AVR β a v → AVR β' a v
  | .val _, _, e => by simpa [AVR] using e
  | .ptr _ _, _, e => by
    simp only [AVR] at e ⊢
    obtain ⟨r, h1, h2⟩ := e
    exact ⟨r, h _ _ h1, h2⟩
  | .slc _ _ _ _, _, e => by
    simp only [AVR] at e ⊢
    obtain ⟨r, cap, h1, h2, h3⟩ := e
    exact ⟨r, cap, h _ _ h1, h2, h3⟩
  | .fn _ fs cs, _, e => by
    simp only [AVR] at e ⊢
    obtain ⟨a, b, h1, h2, h3⟩ := e
    exact ⟨a, b, h1, AVRs.mono h h2, AVRs.mono h h3⟩
  | .agg cs, _, e => by
    simp only [AVR] at e ⊢
    obtain ⟨a, h1, h2⟩ := e
    exact ⟨a, h1, AVRs.mono h h2⟩
  | .tup cs, _, e => by
    simp only [AVR] at e ⊢
    obtain ⟨a, h1, h2⟩ := e
    exact ⟨a, h1, AVRs.mono h h2⟩
  | .junk, _, _ => by simp [AVR]
theorem AVRs.mono {β β' : Env} (h : Ext β β') : ∀ {a : List AV} {v : List Value}, AVRs β a v → AVRs β' a v
  | [], [], _ => by simp [AVRs]
  | _ :: _, _ :: _, e => by
    simp only [AVRs] at e ⊢
    exact ⟨AVR.mono h e.1, AVRs.mono h e.2⟩
  | [], _ :: _, e => by simp [AVRs] at e
  | _ :: _, [], e => by simp [AVRs] at e
end

theorem AVRs.length {β : Env} : ∀ {a : List AV} {v : List Value}, AVRs β a v → a.length = v.length
  | [], [], _ => rfl
  | _ :: _, _ :: _, e => by
    simp only [AVRs] at e
    simp [AVRs.length e.2]
  | [], _ :: _, e => by simp [AVRs] at e
  | _ :: _, [], e => by simp [AVRs] at e

/-- The cells that are known are the first ones. -/
def Pre (β : Env) (cs : List AV) (l : List Value) : Prop := ∀ (i : Nat) (x : AV), cs[i]? = some x → ∃ y, l[i]? = some y ∧ AVR β x y

theorem AVRs.pre {β : Env} : ∀ {a : List AV} {v : List Value}, AVRs β a v → Pre β a v
  | [], [], _ => fun _ _ h => by simp at h
  | a :: as, v :: vs, e => fun i x h => by
    simp only [AVRs] at e
    cases i with
    | zero =>
      simp only [List.getElem?_cons_zero, Option.some.injEq] at h
      subst h
      exact ⟨v, by simp, e.1⟩
    | succ i =>
      simp only [List.getElem?_cons_succ] at h
      simpa using AVRs.pre e.2 i x h
  | [], _ :: _, e => by simp [AVRs] at e
  | _ :: _, [], e => by simp [AVRs] at e

theorem Pre.mono {β β' : Env} (h : Ext β β') {cs : List AV} {l : List Value} (p : Pre β cs l) : Pre β' cs l := fun i x hx =>
  let ⟨y, h1, h2⟩ := p i x hx
  ⟨y, h1, h2.mono h⟩

theorem Pre.le {β : Env} {cs : List AV} {l : List Value} (p : Pre β cs l) : cs.length ≤ l.length := by
  by_cases h : cs.length = 0
  · omega
  · have hlt : cs.length - 1 < cs.length := by omega
    obtain ⟨y, hy, _⟩ := p (cs.length - 1) _ (List.getElem?_eq_getElem hlt)
    have := (List.getElem?_eq_some_iff.1 hy).1
    omega

theorem Pre.drop {β : Env} {cs : List AV} {l : List Value} (p : Pre β cs l) (n : Nat) : Pre β (cs.drop n) (l.drop n) := fun i x hx => by
  rw [List.getElem?_drop] at hx ⊢
  exact p _ _ hx

theorem Pre.take {β : Env} : ∀ {n : Nat} {cs : List AV} {l : List Value}, Pre β cs l → n ≤ cs.length → AVRs β (cs.take n) (l.take n)
  | 0, _, _, _, _ => by simp [AVRs]
  | n + 1, [], _, _, h => by simp at h
  | n + 1, c :: cs, l, p, h => by
    obtain ⟨y, hy, hr⟩ := p 0 c (by simp)
    cases l with
    | nil => simp at hy
    | cons v l =>
      simp only [List.getElem?_cons_zero, Option.some.injEq] at hy
      subst hy
      simp only [List.take_succ_cons, AVRs]
      refine ⟨hr, Pre.take (fun i x hx => ?_) (by simpa using h)⟩
      obtain ⟨z, hz, hr⟩ := p (i + 1) x (by simpa using hx)
      exact ⟨z, by simpa using hz, hr⟩

/-! ### Look-ups -/

theorem lk_cons {α : Type} (i : Nat) (a : α) (r : List (Nat × α)) (n : Nat) : lk ((i, a) :: r) n = if i = n then some a else lk r n := by
  simp only [lk]
  by_cases h : i = n
  · subst h; simp
  · have : Nat.beq i n = false := by
      cases hb : Nat.beq i n
      · rfl
      · exact absurd (Nat.eq_of_beq_eq_true hb) h
    simp [this, h]

theorem lk_append {α : Type} (a b : List (Nat × α)) (n : Nat) : lk (a ++ b) n = match lk a n with | some x => some x | none => lk b n := by
  induction a with
  | nil => simp [lk]
  | cons p r ih =>
    obtain ⟨i, x⟩ := p
    rw [List.cons_append, lk_cons, lk_cons, ih]
    split <;> rfl

theorem lk_append_some {α : Type} {a b : List (Nat × α)} {n : Nat} {x : α} (h : lk a n = some x) : lk (a ++ b) n = some x := by
  rw [lk_append, h]

/-! ### The blocks -/

structure HI (W0 : World) (M : Nat → Prop) (β : Env) (rw ro : AH) (w : World) : Prop where
  os : w.os = W0.os
  tape : w.tape = W0.tape
  out : w.output = W0.output
  size : W0.heap.size ≤ w.heap.size
  fr : ∀ b, b < W0.heap.size → ¬ M b → w.heap[b]? = W0.heap[b]?
  at_ : ∀ id cs, lk (rw ++ ro) id = some (some cs) → ∃ r arr ty, β id = some r ∧ w.heap[r.blk]? = some (.cells arr ty (0, 0)) ∧ arr.size = r.size ∧ Pre β cs arr.toList
  inj : ∀ i j r q ci cj, lk (rw ++ ro) i = some (some ci) → lk (rw ++ ro) j = some (some cj) → β i = some r → β j = some q → r.blk = q.blk → i = j
  own : ∀ id cs r, lk rw id = some (some cs) → β id = some r → M r.blk ∨ W0.heap.size ≤ r.blk
  glob : ∀ g r, g < 900 → β g = some r → r.blk = g

theorem HI.drew {W0 : World} {M : Nat → Prop} {β : Env} {rw ro : AH} {w : World} (h : HI W0 M β rw ro w) : HI W0 M β rw ro w.drew :=
  ⟨h.os, h.tape, h.out, h.size, h.fr, h.at_, h.inj, h.own, h.glob⟩

/-- A new block. -/
theorem HI.alloc {W0 : World} {M : Nat → Prop} {β : Env} {rw ro : AH} {w : World} (h : HI W0 M β rw ro w) {id : Nat} (hid : 900 ≤ id) (hn : β id = none)
    {cs : List AV} {arr : Array Value} (ty : TypeId) (hc : Pre β cs arr.toList) :
    ∃ β', Ext β β' ∧ (∀ j, j ≠ id → β' j = β j) ∧ β' id = some ⟨w.heap.size, arr.size⟩ ∧ HI W0 M β' ((id, some cs) :: rw) ro (w.alloc (.cells arr ty)) := by
  have hext : Ext β (fun i => if i = id then some ⟨w.heap.size, arr.size⟩ else β i) := fun i r hi => by
    by_cases e : i = id
    · subst e; rw [hn] at hi; cases hi
    · simp [e, hi]
  have hlt : ∀ i c r, lk (rw ++ ro) i = some (some c) → β i = some r → r.blk < w.heap.size := fun i c r hl hb => by
    obtain ⟨r', arr', ty', hb', hh, _⟩ := h.at_ i c hl
    rw [hb] at hb'
    cases hb'
    exact (Array.getElem?_eq_some_iff.1 hh).1
  refine ⟨_, hext, fun j hj => by simp [hj], by simp, ?_⟩
  refine { os := h.os, tape := h.tape, out := h.out, size := by simp; have := h.size; omega, fr := ?_, at_ := ?_, inj := ?_, own := ?_, glob := ?_ }
  · intro b hb hM
    rw [RowKit.Below.heap_alloc w _ b (by have := h.size; omega)]
    exact h.fr b hb hM
  · intro i c hi
    rw [List.cons_append, lk_cons] at hi
    by_cases e : id = i
    · subst e
      simp only [if_true, Option.some.injEq] at hi
      subst hi
      exact ⟨⟨w.heap.size, arr.size⟩, arr, ty, by simp, heap_alloc_new w _, rfl, hc.mono hext⟩
    · rw [if_neg e] at hi
      obtain ⟨r, a', t', hb, hh, hs, hp⟩ := h.at_ i c hi
      exact ⟨r, a', t', hext _ _ hb, by rw [RowKit.Below.heap_alloc w _ _ (hlt i c r hi hb)]; exact hh, hs, hp.mono hext⟩
  · intro i j r q ci cj hi hj hbi hbj hrq
    rw [List.cons_append, lk_cons] at hi hj
    by_cases e : id = i <;> by_cases e' : id = j
    · omega
    · rw [if_neg e'] at hj
      simp only [if_neg (Ne.symm e')] at hbj
      simp only [e.symm, if_true, Option.some.injEq] at hbi
      subst hbi
      have := hlt j cj q hj hbj
      simp only at hrq
      omega
    · rw [if_neg e] at hi
      simp only [if_neg (Ne.symm e)] at hbi
      simp only [e'.symm, if_true, Option.some.injEq] at hbj
      subst hbj
      have := hlt i ci r hi hbi
      simp only at hrq
      omega
    · rw [if_neg e] at hi
      rw [if_neg e'] at hj
      simp only [if_neg (Ne.symm e)] at hbi
      simp only [if_neg (Ne.symm e')] at hbj
      exact h.inj i j r q ci cj hi hj hbi hbj hrq
  · intro i c r hi hb
    rw [lk_cons] at hi
    by_cases e : id = i
    · simp only [e.symm, if_true, Option.some.injEq] at hb
      subst hb
      right
      exact h.size
    · rw [if_neg e] at hi
      simp only [if_neg (Ne.symm e)] at hb
      exact h.own i c r hi hb
  · intro g r hg hb
    by_cases e : g = id
    · omega
    · simp only [if_neg e] at hb
      exact h.glob g r hg hb

/-- The world with a block turned. -/
def setB (w : World) (b : Nat) (o : Obj) : World := { w with heap := w.heap.setIfInBounds b o }

def over (arr : Array Value) : Nat → List Value → Array Value
  | _, [] => arr
  | n, v :: vs => over (arr.setIfInBounds n v) (n + 1) vs

theorem over_size : ∀ (vs : List Value) (arr : Array Value) (n : Nat), (over arr n vs).size = arr.size
  | [], _, _ => rfl
  | v :: vs, arr, n => by rw [over, over_size vs]; simp

theorem setB_setB (w : World) (b : Nat) (o o' : Obj) : setB (setB w b o) b o' = setB w b o' := by
  simp [setB, Array.setIfInBounds_setIfInBounds]

theorem setB_same {w : World} {b : Nat} {o o' : Obj} (h : w.heap[b]? = some o) : (setB w b o').heap[b]? = some o' := by
  have := (Array.getElem?_eq_some_iff.1 h).1
  simp [setB, this]

theorem setB_other {w : World} {b c : Nat} {o : Obj} (h : b ≠ c) : (setB w b o).heap[c]? = w.heap[c]? := by
  simp [setB, Array.getElem?_setIfInBounds_ne h]

theorem setB_id {w : World} {b : Nat} {o : Obj} (h : w.heap[b]? = some o) : setB w b o = w := by
  unfold setB
  congr 1
  apply Array.ext_getElem?
  intro i
  by_cases e : b = i
  · subst e
    have := (Array.getElem?_eq_some_iff.1 h).1
    rw [Array.getElem?_setIfInBounds_self_of_lt this, h]
  · simp [Array.getElem?_setIfInBounds_ne e]

theorem setCell_setB {w : World} {b n : Nat} {arr : Array Value} {ty : TypeId} {v : Value} (h : w.heap[b]? = some (.cells arr ty (0, 0))) :
    w.setCell ⟨b, n, none⟩ v = setB w b (.cells (arr.setIfInBounds n v) ty (0, 0)) := by
  unfold World.setCell setB
  congr 1
  apply Array.ext_getElem?
  intro i
  rw [Array.getElem?_modify]
  by_cases e : b = i
  · subst e
    have := (Array.getElem?_eq_some_iff.1 h).1
    rw [Array.getElem?_setIfInBounds_self_of_lt this, h]
    simp
  · simp [e, Array.getElem?_setIfInBounds_ne e]

theorem run_storeCells {P : Program} (b : Nat) (ty : TypeId) (o : Nat) : ∀ (vs : List Value) (i : Nat) (arr : Array Value) (w : World), w.heap[b]? = some (.cells arr ty (0, 0)) →
    (∀ v ∈ vs, v.oneCell' = true) → o + i + vs.length ≤ arr.size → (storeCells ⟨b, o, none⟩ vs i).run P w = .ok () (setB w b (.cells (over arr (o + i) vs) ty (0, 0)))
  | [], i, arr, w, h, _, _ => by
    simp only [storeCells, over, Sem.run_pure, setB_id h]
  | v :: vs, i, arr, w, h, h1, hs => by
    simp only [List.length_cons] at hs
    have hc : w.cell? ⟨b, o + i, none⟩ = some arr[o + i] := by
      simp [World.cell?, h]
    have hf : w.frozen? ⟨b, o + i, none⟩ = false := by simp [World.frozen?, h]
    have hadd : (⟨b, o, none⟩ : Addr).add i = ⟨b, o + i, none⟩ := by unfold Addr.add; split <;> simp_all
    simp only [storeCells, Sem.run_bind, hadd]
    rw [run_store P w _ v _ (h1 v (by simp)), hc]
    simp only [hf, Bool.false_eq_true, if_false, Result.andThen_ok]
    rw [setCell_setB h]
    have := run_storeCells (P := P) b ty o vs (i + 1) (arr.setIfInBounds (o + i) v) (setB w b (.cells (arr.setIfInBounds (o + i) v) ty (0, 0))) (setB_same h) (fun u hu => h1 u (by simp [hu])) (by simp; omega)
    rw [this, setB_setB]
    rfl

theorem over_get : ∀ (vs : List Value) (arr : Array Value) (n i : Nat), n + vs.length ≤ arr.size → (over arr n vs)[i]? = if n ≤ i ∧ i < n + vs.length then vs[i - n]? else arr[i]?
  | [], arr, n, i, _ => by
    rw [over, if_neg (by simp only [List.length_nil]; omega)]
  | v :: vs, arr, n, i, h => by
    simp only [List.length_cons] at h
    rw [over, over_get vs _ (n + 1) i (by simp; omega)]
    by_cases h1 : n + 1 ≤ i ∧ i < n + 1 + vs.length
    · rw [if_pos h1, if_pos ⟨by omega, by simp; omega⟩]
      have : i - n = (i - (n + 1)) + 1 := by omega
      rw [this, List.getElem?_cons_succ]
    · rw [if_neg h1]
      by_cases h2 : i = n
      · subst h2
        rw [if_pos ⟨Nat.le_refl _, by simp⟩, Array.getElem?_setIfInBounds_self_of_lt (by omega)]
        simp
      · rw [if_neg (by simp only [List.length_cons]; omega), Array.getElem?_setIfInBounds_ne (Ne.symm h2)]

theorem putCells_spec : ∀ (cs : List AV) (n : Nat) (vs cs' : List AV), putCells cs n vs = some cs' →
    n + vs.length ≤ cs.length ∧ cs'.length = cs.length ∧ ∀ i, cs'[i]? = if n ≤ i ∧ i < n + vs.length then vs[i - n]? else cs[i]?
  | cs, 0, [], cs', h => by
    have : cs = cs' := by cases cs <;> simpa [putCells] using h
    subst this
    exact ⟨by simp, rfl, fun i => by rw [if_neg (by simp only [List.length_nil]; omega)]⟩
  | c :: cs, 0, v :: vs, cs', h => by
    simp only [putCells, Option.map_eq_some_iff] at h
    obtain ⟨r, hr, rfl⟩ := h
    obtain ⟨h1, h2, h3⟩ := putCells_spec cs 0 vs r hr
    refine ⟨by simp; omega, by simp [h2], fun i => ?_⟩
    cases i with
    | zero => simp
    | succ i =>
      rw [List.getElem?_cons_succ, h3 i]
      simp only [Nat.zero_le, true_and, Nat.zero_add, List.length_cons, Nat.sub_zero, List.getElem?_cons_succ, Nat.add_lt_add_iff_right]
  | c :: cs, n + 1, vs, cs', h => by
    simp only [putCells, Option.map_eq_some_iff] at h
    obtain ⟨r, hr, rfl⟩ := h
    obtain ⟨h1, h2, h3⟩ := putCells_spec cs n vs r hr
    refine ⟨by simp; omega, by simp [h2], fun i => ?_⟩
    cases i with
    | zero => rw [if_neg (by omega)]; simp
    | succ i =>
      rw [List.getElem?_cons_succ, h3 i, List.getElem?_cons_succ]
      have e : (n + 1 ≤ i + 1 ∧ i + 1 < n + 1 + vs.length) ↔ (n ≤ i ∧ i < n + vs.length) := by omega
      have e2 : i + 1 - (n + 1) = i - n := by omega
      simp only [e, e2]
  | [], 0, v :: vs, cs', h => by simp [putCells] at h
  | [], n + 1, vs, cs', h => by cases vs <;> simp [putCells] at h

/-- A store. -/
theorem HI.store {W0 : World} {M : Nat → Prop} {β : Env} {rw ro : AH} {w : World} (h : HI W0 M β rw ro w) {id : Nat} {cs cs' vs : List AV} {off : Nat} (hl : lk rw id = some (some cs))
    {r : Reg} {arr : Array Value} {ty : TypeId} (hb : β id = some r) (hh : w.heap[r.blk]? = some (.cells arr ty (0, 0))) (hs : arr.size = r.size) (hp : Pre β cs arr.toList)
    (hput : putCells cs off vs = some cs') {xs : List Value} (hx : AVRs β vs xs) :
    off + xs.length ≤ arr.size ∧ HI W0 M β ((id, some cs') :: rw) ro (setB w r.blk (.cells (over arr off xs) ty (0, 0))) := by
  obtain ⟨p1, p2, p3⟩ := putCells_spec _ _ _ _ hput
  have hle := hp.le
  have hlen := hx.length
  simp only [Array.length_toList] at hle
  refine ⟨by omega, ?_⟩
  have hl' : lk (rw ++ ro) id = some (some cs) := lk_append_some hl
  have hne : ∀ i c q, id ≠ i → lk (rw ++ ro) i = some (some c) → β i = some q → r.blk ≠ q.blk := fun i c q e hi hbi hq =>
    e (h.inj id i r q cs c hl' hi hb hbi hq)
  refine { os := h.os, tape := h.tape, out := h.out, size := by simp only [setB, Array.size_setIfInBounds]; exact h.size, fr := ?_, at_ := ?_, inj := ?_, own := ?_, glob := h.glob }
  · intro b hb' hM
    have hn : r.blk ≠ b := fun e => by
      rcases h.own id cs r hl hb with h1 | h1
      · exact hM (e ▸ h1)
      · omega
    rw [setB_other hn]
    exact h.fr b hb' hM
  · intro i c hi
    rw [List.cons_append, lk_cons] at hi
    by_cases e : id = i
    · subst e
      simp only [if_true, Option.some.injEq] at hi
      subst hi
      refine ⟨r, _, ty, hb, setB_same hh, by rw [over_size]; exact hs, fun i x hix => ?_⟩
      rw [p3] at hix
      rw [Array.getElem?_toList, over_get xs arr off i (by omega)]
      by_cases e : off ≤ i ∧ i < off + vs.length
      · rw [if_pos e] at hix
        rw [if_pos (by omega)]
        exact hx.pre _ _ hix
      · rw [if_neg e] at hix
        rw [if_neg (by omega)]
        simpa using hp _ _ hix
    · rw [if_neg e] at hi
      obtain ⟨q, a', t', hbi, hhi, hsi, hpi⟩ := h.at_ i c hi
      exact ⟨q, a', t', hbi, by rw [setB_other (hne i c q e hi hbi)]; exact hhi, hsi, hpi⟩
  · intro i j p q ci cj hi hj hbi hbj hpq
    have key : ∀ k c, lk ((id, some cs') :: rw ++ ro) k = some (some c) → ∃ c', lk (rw ++ ro) k = some (some c') := fun k c hk => by
      rw [List.cons_append, lk_cons] at hk
      by_cases e : id = k
      · subst e; exact ⟨cs, hl'⟩
      · rw [if_neg e] at hk; exact ⟨c, hk⟩
    obtain ⟨ci', hi'⟩ := key i ci hi
    obtain ⟨cj', hj'⟩ := key j cj hj
    exact h.inj i j p q ci' cj' hi' hj' hbi hbj hpq
  · intro i c q hi hbi
    rw [lk_cons] at hi
    by_cases e : id = i
    · subst e; exact h.own id cs q hl hbi
    · rw [if_neg e] at hi; exact h.own i c q hi hbi

end Go.Sx

/- One operation: what the evaluator says of it is what the model does. -/
namespace Go.Sx

structure TI (β : Env) (s : St) (a : Act) : Prop where
  sz : a.tmps.size = s.n
  df : a.defers = []
  tm : ∀ t x, lk s.tmps t = some x → ∃ v, a.tmps[t]? = some v ∧ AVR β x v

theorem TI.mono {β β' : Env} {s : St} {a : Act} (h : TI β s a) (e : Ext β β') : TI β' s a :=
  ⟨h.sz, h.df, fun t x ht => let ⟨v, h1, h2⟩ := h.tm t x ht; ⟨v, h1, h2.mono e⟩⟩

theorem AVRs.vals (β : Env) : ∀ l : List Value, AVRs β (l.map .val) l
  | [] => by simp [AVRs]
  | v :: l => by simp only [List.map_cons, AVRs, AVR]; exact ⟨trivial, AVRs.vals β l⟩

theorem ofConst_rel (β : Env) (v : Value) : AVR β (ofConst v) v := by
  cases v <;> simp only [ofConst, AVR]
  case agg cs => exact ⟨cs, rfl, AVRs.vals β _⟩
  case tuple cs => exact ⟨cs, rfl, AVRs.vals β _⟩

section
variable {P : Program} {W0 : World} {M : Nat → Prop} {β : Env} {s : St} {a : Act} {w : World}

theorem ev_sound (ht : TI β s a) (hi : HI W0 M β s.rw s.ro w) {x : Operand} {v : AV} (h : ev s x = some v) : AVR β v (a.eval x) := by
  cases x with
  | tmp t =>
    obtain ⟨u, h1, h2⟩ := ht.tm t v h
    simp only [Act.eval, Array.getD_eq_getD_getElem?, h1, Option.getD_some]
    exact h2
  | const c =>
    simp only [ev, Option.some.injEq] at h
    subst h
    exact ofConst_rel β c
  | global g =>
    simp only [ev] at h
    cases hb : Nat.blt g 900 with
    | false => simp [hb] at h
    | true =>
      simp only [hb, cond_true] at h
      split at h
      · rename_i cs hl
        simp only [Option.some.injEq] at h
        subst h
        obtain ⟨r, arr, ty, h1, _⟩ := hi.at_ g cs hl
        have hlt : g < 900 := by simpa [Nat.blt_eq] using hb
        simp only [AVR, Act.eval]
        exact ⟨r, h1, by rw [hi.glob g r hlt h1]⟩
      · cases h
  | func f =>
    simp only [ev, Option.some.injEq] at h
    subst h
    simp only [AVR, Act.eval]
    exact ⟨#[], #[], rfl, by simp [AVRs], by simp [AVRs]⟩

theorem evAll_sound (ht : TI β s a) (hi : HI W0 M β s.rw s.ro w) : ∀ {l : List Operand} {vs : List AV}, evAll s l = some vs → AVRs β vs (l.map a.eval)
  | [], vs, h => by
    simp only [evAll, Option.some.injEq] at h
    subst h
    simp [AVRs]
  | x :: l, vs, h => by
    simp only [evAll] at h
    split at h
    · rename_i u us h1 h2
      simp only [Option.some.injEq] at h
      subst h
      simp only [List.map_cons, AVRs]
      exact ⟨ev_sound ht hi h1, evAll_sound ht hi h2⟩
    · cases h

theorem pureRun_sound {α : Type} : ∀ {e : Sem α} {x : α}, pureRun P e = some x → ∀ w, e.run P w = .ok x w
  | .pure _, x, h, w => by simp only [pureRun, Option.some.injEq] at h; subst h; rfl
  | .program k, x, h, w => by
    simp only [pureRun] at h
    exact pureRun_sound (e := k P) h w
  | .load .., _, h, _ | .store .., _, h, _ | .new .., _, h, _ | .shape .., _, h, _ | .freeze .., _, h, _ | .frozen .., _, h, _
  | .getObj .., _, h, _ | .setObj .., _, h, _ | .choose .., _, h, _ | .sys .., _, h, _ | .mark .., _, h, _ | .halt .., _, h, _ => by simp [pureRun] at h

theorem cells_rel {v : AV} {x : Value} (h : AVR β v x) (hx : ∀ l, v ≠ .val (.agg l)) (hj : v ≠ .junk) : AVRs β v.cells x.cells.toList := by
  cases v with
  | agg cs =>
    simp only [AVR] at h
    obtain ⟨vs, rfl, h⟩ := h
    simpa [AV.cells, Value.cells] using h
  | val u =>
    simp only [AVR] at h
    subst h
    have : x.cells = #[x] := by cases x <;> first | rfl | exact absurd rfl (hx _)
    simp [AV.cells, this, AVRs, AVR]
  | ptr i o =>
    have h' := h
    simp only [AVR] at h
    obtain ⟨r, _, rfl⟩ := h
    simp only [AV.cells, Value.cells, AVRs, and_true]
    exact h'
  | slc i o n k =>
    have h' := h
    simp only [AVR] at h
    obtain ⟨r, c, _, rfl, _⟩ := h
    simp only [AV.cells, Value.cells, AVRs, and_true]
    exact h'
  | fn f p q =>
    have h' := h
    simp only [AVR] at h
    obtain ⟨r, c, rfl, _⟩ := h
    simp only [AV.cells, Value.cells, AVRs, and_true]
    exact h'
  | tup l =>
    have h' := h
    simp only [AVR] at h
    obtain ⟨r, rfl, _⟩ := h
    simp only [AV.cells, Value.cells, AVRs, and_true]
    exact h'
  | junk => exact absurd rfl hj

theorem isAgg_run {t : TypeId} {b : Bool} (h : isAgg? P t = some b) (w : World) : (isAgg t).run P w = .ok b w := by
  unfold isAgg? at h
  cases hu : P.underlying t with
  | none => rw [hu] at h; cases h
  | some d =>
    rw [hu] at h
    unfold isAgg
    rw [Sem.run_bind, run_underlying hu w]
    cases d <;> simp_all

theorem size_run {t : TypeId} {n : Nat} (h : size? P t = some n) (w : World) : (sizeOf t).run P w = .ok n w := by
  unfold size? at h
  cases hi : P.info? t with
  | none => rw [hi] at h; cases h
  | some i =>
    rw [hi] at h
    simp only [Option.map_some, Option.some.injEq] at h
    simp [sizeOf, typeInfo, hi, h]

/-- A part of an aggregate. -/
theorem partOf_run {t : TypeId} {cs : List AV} {off : Nat} {v : AV} {xs : Array Value} (h : partOf P t cs off = some v) (hx : AVRs β cs xs.toList) (w : World) :
    ∃ x, (part t xs off).run P w = .ok x w ∧ AVR β v x := by
  unfold partOf at h
  split at h
  · rename_i n h1 h2
    cases hb : Nat.ble (off + n) cs.length with
    | false => simp [hb] at h
    | true =>
      simp only [hb, cond_true, Option.some.injEq] at h
      subst h
      have hle : off + n ≤ cs.length := Nat.le_of_ble_eq_true hb
      refine ⟨.agg (xs.extract off (off + n)), by simp [part, isAgg_run h1, size_run h2], ?_⟩
      simp only [AVR]
      refine ⟨_, rfl, ?_⟩
      have := (hx.pre.drop off).take (n := n) (by simp; omega)
      simpa [List.take_drop, Array.toList_extract, List.extract_eq_take_drop, Nat.add_comm off n, Nat.add_sub_cancel] using this
  · rename_i h1
    obtain ⟨y, hy, hr⟩ := hx.pre off v h
    refine ⟨y, ?_, hr⟩
    have : xs[off]? = some y := by simpa using hy
    simp [part, isAgg_run h1, this]
  · cases h

/-- The same out of a block. -/
theorem partOf_load {t : TypeId} {cs : List AV} {off : Nat} {v : AV} {arr : Array Value} {ty : TypeId} {b : Nat} (h : partOf P t cs off = some v) (hx : Pre β cs arr.toList) {w : World}
    (hb : w.heap[b]? = some (.cells arr ty (0, 0))) : ∃ x, (loadVar t ⟨b, off, none⟩).run P w = .ok x w ∧ AVR β v x := by
  have hcell : ∀ j, w.cell? ⟨b, j, none⟩ = arr[j]? := fun j => by simp [World.cell?, hb]
  have hadd : ∀ j, (⟨b, off, none⟩ : Addr).add j = ⟨b, off + j, none⟩ := fun j => by unfold Addr.add; split <;> simp_all
  unfold partOf at h
  split at h
  · rename_i n h1 h2
    cases hb : Nat.ble (off + n) cs.length with
    | false => simp [hb] at h
    | true =>
      simp only [hb, cond_true, Option.some.injEq] at h
      subst h
      have hle : off + n ≤ cs.length := Nat.le_of_ble_eq_true hb
      have hlen : n ≤ (arr.toList.drop off).length := by have := hx.le; simp at this ⊢; omega
      have hl : (loadCells ⟨b, off, none⟩ ((arr.toList.drop off).take n).length).run P w = .ok ((arr.toList.drop off).take n).toArray w :=
        run_loadCells_list (P := P) w ⟨b, off, none⟩ _ (fun j u hu => by
          rw [hadd, hcell]
          rw [List.getElem?_take] at hu
          split at hu
          · rw [List.getElem?_drop] at hu; simpa using hu
          · cases hu)
      rw [List.length_take, Nat.min_eq_left hlen] at hl
      refine ⟨.agg ((arr.toList.drop off).take n).toArray, by simp [loadVar, isAgg_run h1, size_run h2, hl], ?_⟩
      simp only [AVR]
      exact ⟨_, rfl, by simpa using (hx.drop off).take (n := n) (by simp; omega)⟩
  · rename_i h1
    obtain ⟨y, hy, hr⟩ := hx off v h
    refine ⟨y, ?_, hr⟩
    have hc : w.cell? ⟨b, off, none⟩ = some y := by rw [hcell]; simpa using hy
    simp [loadVar, isAgg_run h1, hc]
  · cases h

theorem andT_some {x y : Option Bool} {r : Bool} (h : andT x y = some r) : ∃ p q, x = some p ∧ y = some q ∧ r = cond p q false := by
  cases x with
  | none => cases y <;> simp [andT] at h
  | some p => cases y with
    | none => simp [andT] at h
    | some q =>
      simp only [andT, Option.some.injEq] at h
      exact ⟨p, q, rfl, rfl, h.symm⟩

theorem eqItems_sound {f : AV → AV → Option Bool} {d : Nat} {e : TypeId} {n : Nat} (hn : size? P e = some n)
    (hf : ∀ {a b : AV} {x y : Value} {r : Bool}, f a b = some r → AVR β a x → AVR β b y → ∀ w, (Op.equalIn d e x y).run P w = .ok r w)
    {xs ys : List AV} {us vs : Array Value} (hx : AVRs β xs us.toList) (hy : AVRs β ys vs.toList) : ∀ {l : List Nat} {r : Bool}, eqItemsA f P e n xs ys l = some r →
    ∀ w, (Op.eqItems d e n us vs l).run P w = .ok r w
  | [], r, h, w => by
    simp only [eqItemsA, Option.some.injEq] at h
    subst h
    simp [Op.eqItems]
  | j :: l, r, h, w => by
    simp only [eqItemsA] at h
    split at h
    · rename_i p q h1 h2
      obtain ⟨r1, r2, e1, e2, rfl⟩ := andT_some h
      obtain ⟨x, hx1, hx2⟩ := partOf_run h1 hx w
      obtain ⟨y, hy1, hy2⟩ := partOf_run h2 hy w
      have h3 := hf e1 hx2 hy2 w
      have h4 := eqItems_sound hn hf hx hy e2 w
      simp only [Op.eqItems, Sem.run_bind, hx1, hy1, h3, Result.andThen_ok]
      cases r1
      · simp
      · simpa using h4
    · cases h

theorem eqFields_sound {f : TypeId → AV → AV → Option Bool} {d : Nat}
    (hf : ∀ {t : TypeId} {a b : AV} {x y : Value} {r : Bool}, f t a b = some r → AVR β a x → AVR β b y → ∀ w, (Op.equalIn d t x y).run P w = .ok r w)
    {xs ys : List AV} {us vs : Array Value} (hx : AVRs β xs us.toList) (hy : AVRs β ys vs.toList) : ∀ {l : List Field} {r : Bool}, eqFieldsA f P xs ys l = some r →
    ∀ w, (Op.eqFields d us vs l).run P w = .ok r w
  | [], r, h, w => by
    simp only [eqFieldsA, Option.some.injEq] at h
    subst h
    simp [Op.eqFields]
  | g :: l, r, h, w => by
    simp only [eqFieldsA] at h
    cases hn : g.name != "_" with
    | false =>
      rw [hn] at h
      simp only [cond_false] at h
      have h4 := eqFields_sound hf hx hy h w
      have hn' : g.name = "_" := by simpa using hn
      simp only [Op.eqFields, hn', ne_eq, not_true_eq_false, if_false]
      exact h4
    | true =>
      rw [hn] at h
      simp only [cond_true] at h
      have hn' : g.name ≠ "_" := by simpa using hn
      split at h
      · rename_i p q h1 h2
        obtain ⟨r1, r2, e1, e2, rfl⟩ := andT_some h
        obtain ⟨x, hx1, hx2⟩ := partOf_run h1 hx w
        obtain ⟨y, hy1, hy2⟩ := partOf_run h2 hy w
        have h3 := hf e1 hx2 hy2 w
        have h4 := eqFields_sound hf hx hy e2 w
        simp only [Op.eqFields, if_pos hn', Sem.run_bind, hx1, hy1, h3, Result.andThen_ok]
        cases r1
        · simp
        · simpa using h4
      · cases h

theorem eqA_sound : ∀ {d : Nat} {t : TypeId} {x y : AV} {r : Bool} {u v : Value} (D : Nat), eqA P d t x y = some r → AVR β x u → AVR β y v → ∀ w, (Op.equalIn (d + D) t u v).run P w = .ok r w
  | 0, _, _, _, _, _, _, _, h, _, _, _ => by simp [eqA] at h
  | d + 1, t, x, y, r, u, v, D, h, hx, hy, w => by
    have hD : d + 1 + D = (d + D) + 1 := by omega
    rw [hD]
    unfold eqA at h
    split at h
    · rename_i h1
      simp only [AVR] at hx hy
      subst hx; subst hy
      cases h
      exact run_equalIn_bool w _ t _ _ h1
    · rename_i h1
      simp only [AVR] at hx hy
      subst hx; subst hy
      split at h
      · rename_i hk
        subst hk
        cases h
        exact run_equalIn_int w _ t _ _ _ _ h1
      · cases h
    · rename_i h1
      simp only [AVR] at hx hy
      subst hx; subst hy
      cases h
      exact run_equalIn_string w _ t _ _ h1
    · rename_i h1
      simp only [AVR] at hx hy
      subst hx; subst hy
      cases h
      simp [Op.equalIn, run_underlying h1]
    · rename_i h1
      simp only [AVR] at hx hy
      obtain ⟨q, _, rfl⟩ := hy
      subst hx
      cases h
      simp [Op.equalIn, run_underlying h1]
    · rename_i h1
      simp only [AVR] at hx hy
      obtain ⟨q, _, rfl⟩ := hx
      subst hy
      cases h
      simp [Op.equalIn, run_underlying h1]
    · rename_i h1
      simp only [AVR] at hx hy
      subst hx; subst hy
      cases h
      rename_i a _ _ _ _ 
      cases a <;> simp [Op.equalIn, run_underlying h1]
    · rename_i h1
      simp only [AVR] at hx hy
      obtain ⟨q, c, _, rfl, _⟩ := hx
      subst hy
      cases h
      simp [Op.equalIn, run_underlying h1]
    · rename_i h1
      simp only [AVR] at hx hy
      obtain ⟨q, c, rfl, _⟩ := hx
      subst hy
      cases h
      simp [Op.equalIn, run_underlying h1]
    · rename_i h1
      simp only [AVR] at hx hy
      subst hx; subst hy
      cases h
      simp [Op.equalIn, run_underlying h1]
    · rename_i len e xs ys h1
      simp only [AVR] at hx hy
      obtain ⟨us, rfl, hx⟩ := hx
      obtain ⟨vs, rfl, hy⟩ := hy
      split at h
      · rename_i n hn
        have hn' := hn
        unfold size? at hn'
        cases hi : P.info? e with
        | none => rw [hi] at hn'; cases hn'
        | some i =>
          rw [hi] at hn'
          simp only [Option.map_some, Option.some.injEq] at hn'
          rw [run_equalIn_array w _ us vs h1 hi]
          have hcs : P.cellsOf e = n := by simp [Program.cellsOf, hi, hn']
          rw [hcs]
          exact eqItems_sound hn (fun h hx hy w => eqA_sound D h hx hy w) hx hy h w
      · cases h
    · rename_i fs xs ys h1
      simp only [AVR] at hx hy
      obtain ⟨us, rfl, hx⟩ := hx
      obtain ⟨vs, rfl, hy⟩ := hy
      cases hs : P.stoodInHeld t with
      | true => simp [hs] at h
      | false =>
        simp only [hs, cond_false] at h
        have hfs : P.fieldsOf t = fs := by unfold Program.fieldsOf; rw [h1]
        rw [run_equalIn_struct w _ t us vs (by rw [hfs]; exact h1) hs, hfs]
        exact eqFields_sound (fun h hx hy w => eqA_sound D h hx hy w) hx hy h w
    · cases h

end
end Go.Sx

/- One operation: what the evaluator says of it is what the model does (the operations). -/
namespace Go.Sx

theorem flat_junk {v : AV} (h : v.flat = true) : v ≠ .junk := by
  rintro rfl; simp [AV.flat, AV.one] at h

theorem flat_val {v : AV} (h : v.flat = true) : ∀ l, v ≠ .val (.agg l) := by
  rintro l rfl; simp [AV.flat, AV.one] at h

theorem one_leaf {x : Option AV} {r : Res} (h : (one x).leaf = some r) : x = some r.1 ∧ r.2 = [] := by
  cases x with
  | none => simp [one, T.leaf] at h
  | some a =>
    simp only [one, T.leaf, Option.some.injEq] at h
    subst h
    exact ⟨rfl, rfl⟩

theorem T.leaf_bind {α β : Type} (t : T α) (k : α → T β) : (t.bind k).leaf = t.leaf.bind fun a => (k a).leaf := by
  induction t with
  | ret a => rfl
  | ite b t e iht ihe => cases b <;> simp [T.bind, T.leaf, iht, ihe]
  | asm b t ih => cases b <;> simp [T.bind, T.leaf, ih]
  | both b t e iht ihe => cases b <;> simp [T.bind, T.leaf, iht, ihe]
  | fail => rfl

theorem leaf_opt {α : Type} (x : Option α) : (T.opt x).leaf = x := by cases x <;> rfl

theorem leaf_cond {α : Type} (b : Bool) (x y : T α) : (cond b x y).leaf = cond b x.leaf y.leaf := by cases b <;> rfl

theorem newB_leaf {id : Nat} {cs : List AV} {v : AV} {r : Res} (h : (newB id cs v).leaf = some r) : r = (v, [(id, some cs)]) := by
  simp only [newB, T.leaf, Option.some.injEq] at h
  exact h.symm

/-- The numbers below a number. -/
def desc (p id : Nat) : Prop := ∃ k, id / 65536 ^ k = p

/-- Nothing has turned but below p. -/
def Loc (p : Nat) (β β' : Env) : Prop := ∀ j, ¬ desc p j → β' j = β j

theorem desc.self (p : Nat) : desc p p := ⟨0, by simp⟩

theorem desc.up {p c id : Nat} (hc : c < 65536) (h : desc (idOf p c) id) : desc p id := by
  obtain ⟨k, hk⟩ := h
  refine ⟨k + 1, ?_⟩
  rw [Nat.pow_succ, ← Nat.div_div_eq_div_mul, hk]
  unfold idOf
  omega

theorem desc.le {p id : Nat} (h : desc p id) : p ≤ id := by
  obtain ⟨k, rfl⟩ := h
  exact Nat.div_le_self _ _

theorem desc.apart {p c c' id : Nat} (hp : 1 ≤ p) (hc : c < 65536) (hc' : c' < 65536) (hne : c ≠ c') (h : desc (idOf p c) id) (h' : desc (idOf p c') id) : False := by
  obtain ⟨k, hk⟩ := h
  obtain ⟨l, hl⟩ := h'
  have key : ∀ (k l a b : Nat), a < 65536 → b < 65536 → a ≠ b → k ≤ l → id / 65536 ^ k = idOf p a → id / 65536 ^ l = idOf p b → False := by
    intro k l a b ha hb hab hkl h1 h2
    obtain ⟨d, rfl⟩ := Nat.exists_eq_add_of_le hkl
    rw [Nat.pow_add, ← Nat.div_div_eq_div_mul, h1] at h2
    cases d with
    | zero =>
      unfold idOf at h2
      simp at h2
      exact hab h2
    | succ d =>
      rw [Nat.pow_succ, Nat.mul_comm, ← Nat.div_div_eq_div_mul] at h2
      have h3 : idOf p a / 65536 = p := by unfold idOf; omega
      rw [h3] at h2
      have h4 := Nat.div_le_self p (65536 ^ d)
      unfold idOf at h2
      omega
  rcases Nat.le_total k l with h | h
  · exact key k l c c' hc hc' hne h hk hl
  · exact key l k c' c hc' hc (Ne.symm hne) h hl hk

theorem Loc.refl (p : Nat) (β : Env) : Loc p β β := fun _ _ => rfl
theorem Loc.trans {p : Nat} {a b c : Env} (h : Loc p a b) (k : Loc p b c) : Loc p a c := fun j hj => (k j hj).trans (h j hj)
theorem Loc.up {p c : Nat} {a b : Env} (hc : c < 65536) (h : Loc (idOf p c) a b) : Loc p a b := fun j hj => h j fun hd => hj (hd.up hc)

theorem pickIx_leaf {γ : Type} {i : Int} {k : Nat → T γ} {r : γ} : ∀ {n j : Nat}, (pickIx i k n j).leaf = some r → ∃ m, j ≤ m ∧ m < j + n ∧ i = m ∧ (k m).leaf = some r
  | 0, _, h => by simp [pickIx, T.leaf] at h
  | n + 1, j, h => by
    simp only [pickIx, T.leaf] at h
    cases hb : i == (j : Int) with
    | true =>
      rw [hb] at h
      exact ⟨j, Nat.le_refl _, by omega, by simpa using hb, h⟩
    | false =>
      rw [hb] at h
      obtain ⟨m, h1, h2, h3, h4⟩ := pickIx_leaf (n := n) (j := j + 1) h
      exact ⟨m, by omega, by omega, h3, h4⟩

theorem over_append : ∀ (l m : List Value) (arr : Array Value) (n : Nat), over arr n (l ++ m) = over (over arr n l) (n + l.length) m
  | [], m, arr, n => by simp [over]
  | v :: l, m, arr, n => by
    simp only [List.cons_append, over, List.length_cons]
    rw [over_append l m]
    congr 1
    omega

theorem foldl_over (off : Nat) : ∀ (l : List Value) (k : Nat) (arr : Array Value), (l.zipIdx k).foldl (fun cs p => cs.setIfInBounds (off + p.2) p.1) arr = over arr (off + k) l
  | [], _, _ => rfl
  | v :: l, k, arr => by
    simp only [List.zipIdx_cons, List.foldl_cons, over]
    rw [foldl_over off l (k + 1)]
    rfl

/-- Cells that are related stay so where some are overwritten. -/
theorem AVRs.of_get {β : Env} : ∀ {cs : List AV} {l : List Value}, cs.length = l.length → Pre β cs l → AVRs β cs l
  | cs, l, h, p => by
    have := p.take (n := cs.length) (Nat.le_refl _)
    rw [List.take_length] at this
    rw [h, List.take_length] at this
    exact this

theorem over_rel {β : Env} {cs cs' vs : List AV} {off : Nat} {arr : Array Value} {xs : List Value} (hc : AVRs β cs arr.toList) (hput : putCells cs off vs = some cs') (hx : AVRs β vs xs) :
    off + xs.length ≤ arr.size ∧ AVRs β cs' (over arr off xs).toList := by
  obtain ⟨p1, p2, p3⟩ := putCells_spec _ _ _ _ hput
  have hl := hc.length
  have hlen := hx.length
  simp only [Array.length_toList] at hl
  refine ⟨by omega, AVRs.of_get (by simp [over_size, p2, hl]) fun i x hix => ?_⟩
  rw [p3] at hix
  rw [Array.getElem?_toList, over_get xs arr off i (by omega)]
  by_cases e : off ≤ i ∧ i < off + vs.length
  · rw [if_pos e] at hix
    rw [if_pos (by omega)]
    exact hx.pre _ _ hix
  · rw [if_neg e] at hix
    rw [if_neg (by omega)]
    simpa using hc.pre _ _ hix

def PartsR (β : Env) : List (Nat × AV) → List (Nat × Value) → Prop
  | [], [] => True
  | p :: ps, q :: qs => p.1 = q.1 ∧ AVR β p.2 q.2 ∧ PartsR β ps qs
  | _, _ => False

theorem fill_sound {β : Env} {place place' : Nat → Option (Nat × Nat)} (hpl : ∀ i x, place i = some x → place' i = some x) : ∀ {ps : List (Nat × AV)} {qs : List (Nat × Value)} {cs cs' : List AV} {arr : Array Value}, PartsR β ps qs → AVRs β cs arr.toList →
    fillA place cs ps = some cs' → ∃ arr', Instr.fill place' arr qs = some arr' ∧ AVRs β cs' arr'.toList
  | [], [], cs, cs', arr, _, hc, h => by
    simp only [fillA, Option.some.injEq] at h
    subst h
    exact ⟨arr, rfl, hc⟩
  | (i, v) :: ps, (j, x) :: qs, cs, cs', arr, hp, hc, h => by
    simp only [PartsR] at hp
    obtain ⟨rfl, hv, hp⟩ := hp
    simp only [fillA] at h
    split at h
    · cases h
    · rename_i off n hpi
      cases hf : v.flat && Nat.beq v.cells.length n with
      | false => simp [hf] at h
      | true =>
        simp only [hf, cond_true] at h
        simp only [Bool.and_eq_true] at hf
        split at h
        · rename_i cs2 hput
          have hcells := cells_rel hv (flat_val hf.1) (flat_junk hf.1)
          have hlen := hcells.length
          have hn := Nat.eq_of_beq_eq_true hf.2
          simp only [Array.length_toList] at hlen
          obtain ⟨h1, h2⟩ := over_rel hc hput hcells
          simp only [Array.length_toList] at h1
          have e := foldl_over off x.cells.toList 0 arr
          simp only [Nat.add_zero] at e
          obtain ⟨arr', h3, h4⟩ := fill_sound hpl hp h2 h
          refine ⟨arr', ?_, h4⟩
          simp only [Instr.fill, hpl _ _ hpi]
          rw [if_neg (by simp; omega)]
          rw [← Array.foldl_toList, Array.toList_zipIdx, e]
          exact h3
        · cases h
  | [], _ :: _, _, _, _, hp, _, _ => by simp [PartsR] at hp
  | _ :: _, [], _, _, _, hp, _, _ => by simp [PartsR] at hp

theorem fillA_length {place : Nat → Option (Nat × Nat)} : ∀ {ps : List (Nat × AV)} {cs cs' : List AV}, fillA place cs ps = some cs' → cs'.length = cs.length
  | [], cs, cs', h => by
    simp only [fillA, Option.some.injEq] at h
    subst h
    rfl
  | (i, v) :: ps, cs, cs', h => by
    simp only [fillA] at h
    split at h
    · cases h
    · rename_i off n _
      cases hf : v.flat && Nat.beq v.cells.length n with
      | false => simp [hf] at h
      | true =>
        simp only [hf, cond_true] at h
        split at h
        · rename_i cs2 hput
          rw [fillA_length h]
          exact (putCells_spec _ _ _ _ hput).2.1
        · cases h

theorem repl_length {α : Type} : ∀ (n : Nat) (l : List α), (repl n l).length = n * l.length
  | 0, _ => by simp [repl]
  | n + 1, l => by simp [repl, repl_length n l, Nat.add_mul, Nat.add_comm]

theorem repl_get {α : Type} : ∀ (n : Nat) (l : List α) (i : Nat), i < n * l.length → (repl n l)[i]? = l[i % l.length]?
  | 0, _, i, h => by simp at h
  | n + 1, l, i, h => by
    simp only [repl]
    by_cases hi : i < l.length
    · rw [List.getElem?_append_left hi, Nat.mod_eq_of_lt hi]
    · have h2 : n * l.length + l.length = (n + 1) * l.length := by rw [Nat.add_mul, Nat.one_mul]
      have h3 : i < n * l.length + l.length := by rw [h2]; exact h
      rw [List.getElem?_append_right (by omega), repl_get n l (i - l.length) (by omega)]
      congr 1
      exact (Nat.mod_eq_sub_mod (by omega)).symm

theorem repl_map {α γ : Type} (f : α → γ) : ∀ (n : Nat) (l : List α), repl n (l.map f) = (repl n l).map f
  | 0, _ => rfl
  | n + 1, l => by simp [repl, repl_map f n l]

theorem zeros_eq (n k : Nat) (z : Array Value) (hz : z.size = k) : ((Array.range (n * k)).map (z[· % z.size]!)).toList = repl n z.toList := by
  apply List.ext_getElem?
  intro i
  by_cases hi : i < n * k
  · have hk : 0 < k := by
      rcases Nat.eq_zero_or_pos k with h | h
      · subst h; simp at hi
      · exact h
    rw [repl_get n z.toList i (by simpa [hz] using hi)]
    have hm : i % z.size < z.size := Nat.mod_lt _ (by omega)
    simp [hi, hm]
  · rw [List.getElem?_eq_none (by simp; omega), List.getElem?_eq_none (by rw [repl_length]; simp [hz]; omega)]

section
variable {P : Program} {W0 : World} {M : Nat → Prop} {β : Env} {s : St} {a : Act} {w : World}

theorem zeroA_run {t : TypeId} {cs : List AV} (h : zeroA P t = some cs) : ∃ z : Value, cs = z.cells.toList.map .val ∧ (∀ w, (zeroValue t).run P w = .ok z w) ∧ ∃ i, P.info? t = some i := by
  unfold zeroA at h
  cases hi : P.info? t with
  | none => rw [hi] at h; cases h
  | some i =>
    rw [hi] at h
    simp only [Option.map_eq_some_iff] at h
    obtain ⟨z, hz, rfl⟩ := h
    exact ⟨z, rfl, fun w => by simp [zeroValue, typeInfo, hi, hz], i, rfl⟩

theorem evParts_sound (ht : TI β s a) (hi : HI W0 M β s.rw s.ro w) : ∀ {l : List (Nat × Operand)} {ps : List (Nat × AV)}, evParts s l = some ps → PartsR β ps (l.map fun p => (p.1, a.eval p.2))
  | [], ps, h => by
    simp only [evParts, Option.some.injEq] at h
    subst h
    simp [PartsR]
  | (i, x) :: l, ps, h => by
    simp only [evParts] at h
    split at h
    · rename_i u us h1 h2
      simp only [Option.some.injEq] at h
      subst h
      simp only [List.map_cons, PartsR]
      exact ⟨trivial, ev_sound ht hi h1, evParts_sound ht hi h2⟩
    · cases h

/-- What is to be shown of an operation. -/
def Does (P : Program) (W0 : World) (M : Nat → Prop) (β : Env) (s : St) (w : World) (id : Nat) (e : Sem Value) (r : Res) : Prop :=
  ∃ β' w' x, e.run P w = .ok x w' ∧ Ext β β' ∧ Loc id β β' ∧ AVR β' r.1 x ∧ HI W0 M β' (r.2 ++ s.rw) s.ro w'

theorem Does.pure (hi : HI W0 M β s.rw s.ro w) {id : Nat} {e : Sem Value} {v : AV} {x : Value} (h : e.run P w = .ok x w) (hv : AVR β v x) : Does P W0 M β s w id e (v, []) :=
  ⟨β, w, x, h, Ext.refl _, Loc.refl _ _, hv, hi⟩

theorem alloc_does (hi : HI W0 M β s.rw s.ro w) {t : TypeId} {id : Nat} (hid : 900 ≤ id) (hn : β id = none) {r : Res} (h : (aop P s id (.alloc t)).leaf = some r) : Does P W0 M β s w id (Instr.alloc t true (.tuple #[])) r := by
  simp only [aop] at h
  split at h
  · rename_i cs hz
    obtain ⟨z, rfl, hz, _⟩ := zeroA_run hz
    obtain rfl := newB_leaf h
    obtain ⟨β', e1, e0, e2, e3⟩ := hi.alloc hid hn t (AVRs.vals β z.cells.toList).pre
    refine ⟨β', _, .pointer (some ⟨w.heap.size, 0, none⟩), ?_, e1, fun j hj => e0 j fun he => hj (he ▸ desc.self _), ?_, e3⟩
    · simp [Instr.alloc, hz, newVar, newRow]
    · simp only [AVR]; exact ⟨_, e2, rfl⟩
  · cases h

theorem box_does (hi : HI W0 M β s.rw s.ro w) (ht : TI β s a) {t : TypeId} {x : Operand} {id : Nat} (hid : 900 ≤ id) (hn : β id = none) {r : Res} (h : (aop P s id (.box t x)).leaf = some r) : Does P W0 M β s w id (Instr.box t (a.eval x)) r := by
  simp only [aop] at h
  split at h
  · rename_i v hv
    rw [leaf_cond] at h
    cases hf : v.flat with
    | false => simp [hf, T.leaf] at h
    | true =>
      simp only [hf, cond_true] at h
      obtain rfl := newB_leaf h
      have hc := cells_rel (ev_sound ht hi hv) (flat_val hf) (flat_junk hf)
      obtain ⟨β', e1, e0, e2, e3⟩ := hi.alloc hid hn t hc.pre
      refine ⟨β', _, .pointer (some ⟨w.heap.size, 0, none⟩), ?_, e1, fun j hj => e0 j fun he => hj (he ▸ desc.self _), ?_, e3⟩
      · simp [Instr.box, newVar, newRow]
      · simp only [AVR]; exact ⟨_, e2, rfl⟩
  · cases h

theorem load_does (hi : HI W0 M β s.rw s.ro w) (ht : TI β s a) {t : TypeId} {x : Operand} {id : Nat} {r : Res} (h : (aop P s id (.load t x)).leaf = some r) : Does P W0 M β s w id (Instr.loadAt t (a.eval x)) r := by
  simp only [aop] at h
  split at h
  · rename_i i off hx
    split at h
    · rename_i cs hl
      obtain ⟨h1, h2⟩ := one_leaf h
      have hp := ev_sound ht hi hx
      simp only [AVR] at hp
      obtain ⟨q, hq, hp⟩ := hp
      obtain ⟨q', arr, ty, hq', hh, hs, hpre⟩ := hi.at_ i cs hl
      rw [hq] at hq'; cases hq'
      obtain ⟨y, hy1, hy2⟩ := partOf_load (P := P) h1 hpre hh
      rw [show r = (r.1, []) from by rw [← h2]]
      exact Does.pure hi (by rw [hp]; simp [Instr.loadAt, Instr.sureAddr, hy1]) hy2
    · cases h
  · cases h

theorem all_one_rel : ∀ {cs : List AV} {l : List Value}, AVRs β cs l → cs.all AV.one = true → ∀ v ∈ l, v.oneCell' = true
  | [], [], _, _ => by simp
  | c :: cs, v :: l, h, ho => by
    simp only [AVRs] at h
    simp only [List.all_cons, Bool.and_eq_true] at ho
    intro u hu
    rcases List.mem_cons.1 hu with rfl | hu
    · have h1 := h.1
      have h2 := ho.1
      cases c <;> simp only [AVR] at h1 <;> simp [AV.one] at h2
      case val x => subst h1; cases u <;> simp_all [Value.oneCell']
      case ptr => obtain ⟨_, _, rfl⟩ := h1; rfl
      case slc => obtain ⟨_, _, _, rfl, _⟩ := h1; rfl
      case fn => obtain ⟨_, _, rfl, _⟩ := h1; rfl
    · exact all_one_rel h.2 ho.2 u hu
  | [], _ :: _, h, _ => by simp [AVRs] at h
  | _ :: _, [], h, _ => by simp [AVRs] at h

theorem flat_of_all {v : AV} (h : v.cells.all AV.one = true) : v.flat = true := by
  cases v <;> simp_all [AV.cells, AV.flat]

theorem store_does (hi : HI W0 M β s.rw s.ro w) (ht : TI β s a) {t : TypeId} {x y : Operand} {id : Nat} {r : Res} (h : (aop P s id (.store t x y)).leaf = some r) :
    ∃ w', (Instr.storeAt t (a.eval x) (a.eval y)).run P w = .ok () w' ∧ r.1 = .junk ∧ HI W0 M β (r.2 ++ s.rw) s.ro w' := by
  simp only [aop] at h
  split at h
  · rename_i i off v hx hy
    split at h
    · rename_i cs n hl hn
      rw [leaf_cond] at h
      cases hf : Nat.beq v.cells.length n && v.cells.all AV.one with
      | false => simp [hf, T.leaf] at h
      | true =>
        simp only [hf, cond_true] at h
        simp only [Bool.and_eq_true] at hf
        split at h
        · rename_i cs' hput
          simp only [T.leaf, Option.some.injEq] at h
          subst h
          have hp := ev_sound ht hi hx
          simp only [AVR] at hp
          obtain ⟨q, hq, hp⟩ := hp
          obtain ⟨q', arr, ty, hq', hh, hs, hpre⟩ := hi.at_ i cs (lk_append_some hl)
          rw [hq] at hq'; cases hq'
          have hfl := flat_of_all hf.2
          have hc := cells_rel (ev_sound ht hi hy) (flat_val hfl) (flat_junk hfl)
          obtain ⟨h1, h2⟩ := hi.store hl hq hh hs hpre hput hc
          have hlen := hc.length
          have hn' := Nat.eq_of_beq_eq_true hf.1
          simp only [Array.length_toList] at hlen h1
          refine ⟨_, ?_, rfl, h2⟩
          have hrun := run_storeCells (P := P) q.blk ty off (a.eval y).cells.toList 0 arr w hh (all_one_rel hc hf.2) (by simpa using h1)
          simp only [Nat.add_zero] at hrun
          rw [hp]
          simp only [Instr.storeAt, Instr.sureAddr, Sem.run_bind, Sem.run_pure, Result.andThen_ok, storeVar, size_run hn]
          rw [if_neg (by omega)]
          simpa using hrun
        · cases h
    · cases h
  · cases h

theorem fieldAddr_does (hi : HI W0 M β s.rw s.ro w) (ht : TI β s a) {t : TypeId} {x : Operand} {f id : Nat} {r : Res} (h : (aop P s id (.fieldAddr t x f)).leaf = some r) : Does P W0 M β s w id (Instr.fieldAt t (a.eval x) f) r := by
  simp only [aop] at h
  split at h
  · rename_i i off fs hx hu
    split at h
    · rename_i g hg
      split at h
      · rename_i n hn
        simp only [T.leaf, Option.some.injEq] at h
        subst h
        have hp := ev_sound ht hi hx
        simp only [AVR] at hp
        obtain ⟨q, hq, hp⟩ := hp
        refine Does.pure hi (x := .pointer (some ⟨q.blk, off + g.offset, none⟩)) ?_ (by simp only [AVR]; exact ⟨q, hq, rfl⟩)
        have hadd : (⟨q.blk, off, none⟩ : Addr).add g.offset = ⟨q.blk, off + g.offset, none⟩ := by unfold Addr.add; split <;> simp_all
        rw [hp]
        simp [Instr.fieldAt, run_underlying hu, hg, Instr.sureAddr, fieldPlace, size_run hn, hadd]
      · cases h
    · cases h
  · cases h

theorem field_does (hi : HI W0 M β s.rw s.ro w) (ht : TI β s a) {t : TypeId} {x : Operand} {f id : Nat} {r : Res} (h : (aop P s id (.field t x f)).leaf = some r) : Does P W0 M β s w id (Instr.field t (a.eval x) f) r := by
  simp only [aop] at h
  split at h
  · rename_i cs fs hx hu
    split at h
    · rename_i g hg
      obtain ⟨h1, h2⟩ := one_leaf h
      have hp := ev_sound ht hi hx
      simp only [AVR] at hp
      obtain ⟨vs, hp, hvs⟩ := hp
      obtain ⟨y, hy1, hy2⟩ := partOf_run h1 hvs w
      rw [show r = (r.1, []) from by rw [← h2]]
      refine Does.pure hi ?_ hy2
      rw [hp]
      simp [Instr.field, run_underlying hu, hg, asAgg, hy1]
    · cases h
  · cases h

theorem asIntOf_run {k : IntKind} {n : Int} (w : World) : (asIntOf (.int k n)).run P w = .ok (k, n) w := rfl

theorem indexAddr_does (hi : HI W0 M β s.rw s.ro w) (ht : TI β s a) {t : TypeId} {x y : Operand} {id : Nat} {r : Res} (h : (aop P s id (.indexAddr t x y)).leaf = some r) : Does P W0 M β s w id (Instr.indexAt t (a.eval x) (a.eval y)) r := by
  simp only [aop] at h
  split at h
  · rename_i n e b off k j hu hx hy
    split at h
    · rename_i m hm
      obtain ⟨i, h1, h2, rfl, h4⟩ := pickIx_leaf h
      simp only [T.leaf, Option.some.injEq] at h4
      subst h4
      have hp := ev_sound ht hi hx
      have hq := ev_sound ht hi hy
      simp only [AVR] at hp hq
      obtain ⟨q, hq', hp⟩ := hp
      refine Does.pure hi (x := .pointer (some ⟨q.blk, off + i * m, none⟩)) ?_ (by simp only [AVR]; exact ⟨q, hq', rfl⟩)
      have hadd : (⟨q.blk, off, none⟩ : Addr).add (i * m) = ⟨q.blk, off + i * m, none⟩ := by unfold Addr.add; split <;> simp_all
      rw [hp, hq]
      simp [Instr.indexAt, asIntOf, run_underlying hu, Instr.sureAddr, size_run hm, hadd]
      exact fun hle => absurd hle (by omega)
    · cases h
  · rename_i e b off n k' k j hu hx hy
    split at h
    · rename_i m hm
      obtain ⟨i, h1, h2, rfl, h4⟩ := pickIx_leaf h
      simp only [T.leaf, Option.some.injEq] at h4
      subst h4
      have hp := ev_sound ht hi hx
      have hq := ev_sound ht hi hy
      simp only [AVR] at hp hq
      obtain ⟨q, c, hq', hp, _⟩ := hp
      refine Does.pure hi (x := .pointer (some ⟨q.blk, off + i * m, none⟩)) ?_ (by simp only [AVR]; exact ⟨q, hq', rfl⟩)
      have hadd : (⟨q.blk, off, none⟩ : Addr).add (i * m) = ⟨q.blk, off + i * m, none⟩ := by unfold Addr.add; split <;> simp_all
      rw [hp, hq]
      simp [Instr.indexAt, asIntOf, run_underlying hu, size_run hm, hadd]
      exact fun hle => absurd hle (by omega)
    · cases h
  · cases h

theorem index_does (hi : HI W0 M β s.rw s.ro w) (ht : TI β s a) {t : TypeId} {x y : Operand} {id : Nat} {r : Res} (h : (aop P s id (.index t x y)).leaf = some r) : Does P W0 M β s w id (Instr.index t (a.eval x) (a.eval y)) r := by
  simp only [aop] at h
  split at h
  · rename_i n e cs k j hu hx hy
    split at h
    · rename_i m hm
      obtain ⟨i, h1, h2, rfl, h4⟩ := pickIx_leaf h
      obtain ⟨h5, h6⟩ := one_leaf h4
      have hp := ev_sound ht hi hx
      have hq := ev_sound ht hi hy
      simp only [AVR] at hp hq
      obtain ⟨vs, hp, hvs⟩ := hp
      obtain ⟨u, hu1, hu2⟩ := partOf_run h5 hvs w
      rw [show r = (r.1, []) from by rw [← h6]]
      refine Does.pure hi ?_ hu2
      rw [hp, hq]
      simp [Instr.index, asIntOf, run_underlying hu, size_run hm, hu1]
      exact fun hle => absurd hle (by omega)
    · cases h
  · cases h

theorem extract_does (hi : HI W0 M β s.rw s.ro w) (ht : TI β s a) {x : Operand} {i id : Nat} {r : Res} (h : (aop P s id (.extract x i)).leaf = some r) : Does P W0 M β s w id (Instr.extract (a.eval x) i) r := by
  simp only [aop] at h
  split at h
  · rename_i l hx
    obtain ⟨h1, h2⟩ := one_leaf h
    have hp := ev_sound ht hi hx
    simp only [AVR] at hp
    obtain ⟨vs, hp, hvs⟩ := hp
    obtain ⟨y, hy1, hy2⟩ := hvs.pre i _ h1
    rw [show r = (r.1, []) from by rw [← h2]]
    refine Does.pure hi ?_ hy2
    have : vs[i]? = some y := by simpa using hy1
    rw [hp]
    simp [Instr.extract, this]
  · cases h

theorem sizesOf_get : ∀ {l : List Field} {ls : List (Nat × Nat)}, sizesOf P l = some ls → (l.mapM (fun (f : Field) => Prod.mk f.offset <$> sizeOf f.type)).run P w = .ok ls w
  | [], ls, h => by
    simp only [sizesOf, Option.some.injEq] at h
    subst h
    simp
  | f :: l, ls, h => by
    simp only [sizesOf] at h
    split at h
    · rename_i n l' h1 h2
      simp only [Option.some.injEq] at h
      subst h
      simp [size_run h1, sizesOf_get h2]
    · cases h

theorem build_does (hi : HI W0 M β s.rw s.ro w) (ht : TI β s a) {t : TypeId} {ps : Array (Nat × Operand)} {id : Nat} {r : Res} (h : (aop P s id (.build t ps)).leaf = some r) :
    Does P W0 M β s w id (Instr.build t (ps.map fun (i, x) => (i, a.eval x))) r := by
  simp only [aop] at h
  split at h
  · rename_i l hl
    obtain ⟨h1, h2⟩ := one_leaf h
    have hparts := evParts_sound ht hi hl
    rw [show r = (r.1, []) from by rw [← h2]]
    unfold buildA at h1
    split at h1
    · rename_i z fs hz hu
      obtain ⟨zv, rfl, hzr, _⟩ := zeroA_run hz
      split at h1
      · rename_i ls hls
        simp only [Option.map_eq_some_iff] at h1
        obtain ⟨cs, hfill, hr⟩ := h1
        obtain ⟨arr', e1, e2⟩ := fill_sound (place' := fun i => ls[i]?) (fun i x hx => hx) hparts (AVRs.vals β zv.cells.toList) hfill
        refine Does.pure hi (x := .agg arr') ?_ (by rw [← hr]; simp only [AVR]; exact ⟨_, rfl, e2⟩)
        have hm : (fs.mapM (fun (f : Field) => Prod.mk f.offset <$> sizeOf f.type)).run P w = .ok ls.toArray w := by
          rw [Array.mapM_eq_mapM_toList]
          simp [sizesOf_get hls]
        simp [Instr.build, hzr, run_underlying hu, hm, e1]
      · cases h1
    · rename_i z n e hz hu
      obtain ⟨zv, rfl, hzr, _⟩ := zeroA_run hz
      split at h1
      · rename_i m hm
        simp only [Option.map_eq_some_iff] at h1
        obtain ⟨cs, hfill, hr⟩ := h1
        obtain ⟨arr', e1, e2⟩ := fill_sound (place' := fun i => some (i * m, m)) (fun i x hx => hx) hparts (AVRs.vals β zv.cells.toList) hfill
        refine Does.pure hi (x := .agg arr') ?_ (by rw [← hr]; simp only [AVR]; exact ⟨_, rfl, e2⟩)
        simp [Instr.build, hzr, run_underlying hu, size_run hm, e1]
      · cases h1
    · cases h1
  · cases h

theorem repl_pre (n : Nat) (z : Value) : (repl n (z.cells.toList.map AV.val)) = (repl n z.cells.toList).map .val := repl_map _ _ _

theorem buildSlice_does (hi : HI W0 M β s.rw s.ro w) (ht : TI β s a) {t : TypeId} {n : Nat} {ps : Array (Nat × Operand)} {id : Nat} (hid : 900 ≤ id) (hn : β id = none) {r : Res} (h : (aop P s id (.buildSlice t n ps)).leaf = some r) :
    Does P W0 M β s w id (Instr.buildSlice t n (ps.map fun (i, x) => (i, a.eval x))) r := by
  simp only [aop] at h
  split at h
  · rename_i l hl
    have hparts := evParts_sound ht hi hl
    split at h
    · rename_i cs k hb
      obtain rfl := newB_leaf h
      unfold buildSliceA at hb
      split at hb
      · rename_i e hu
        split at hb
        · rename_i m z hm hz
          cases hf : Nat.ble (n * m) 4096 && Nat.beq z.length m && Nat.blt 0 (n * m) with
          | false => simp [hf] at hb
          | true =>
            simp only [hf, cond_true, Option.map_eq_some_iff, Prod.mk.injEq] at hb
            obtain ⟨cs', hfill, rfl, rfl⟩ := hb
            simp only [Bool.and_eq_true] at hf
            have hle := Nat.le_of_ble_eq_true hf.1.1
            have hzl := Nat.eq_of_beq_eq_true hf.1.2
            have hpos : 0 < n * m := by simpa [Nat.blt_eq] using hf.2
            obtain ⟨zv, rfl, hzr, _⟩ := zeroA_run hz
            have hzs : zv.cells.size = m := by simpa using hzl
            have hz0 : AVRs β (repl n (zv.cells.toList.map AV.val)) ((Array.range (n * m)).map (zv.cells[· % zv.cells.size]!)).toList := by
              rw [zeros_eq n m zv.cells hzs, repl_pre]
              exact AVRs.vals β _
            obtain ⟨arr', e1, e2⟩ := fill_sound (place' := fun i => some (i * m, m)) (fun i x hx => hx) hparts hz0 hfill
            obtain ⟨β', f1, f0, f2, f3⟩ := hi.alloc hid hn e e2.pre
            have hlen := e2.length
            refine ⟨β', _, .slice (some ⟨w.heap.size, 0, none⟩) n n, ?_, f1, fun j hj => f0 j fun he => hj (he ▸ desc.self _), ?_, f3⟩
            · simp only [Instr.buildSlice, Sem.run_bind, run_underlying hu, Result.andThen_ok, size_run hm]
              rw [if_neg (by omega)]
              simp only [if_neg (show ¬ n * m = 0 by omega), Sem.run_bind, Sem.run_pure, hzr, Result.andThen_ok]
              have e1' : Instr.fill (fun i => some (i * m, m)) ((Array.range (n * m)).map (zv.cells[· % zv.cells.size]!)) (ps.map fun (i, x) => (i, a.eval x)).toList = some arr' := by simpa using e1
              rw [e1']
              simp [newRow]
            · simp only [AVR]
              refine ⟨_, n, f2, rfl, Nat.le_refl _, ?_⟩
              have hle2 := e2.pre.le
              have : arr'.size = n * m := by
                have h3 := fillA_length hfill
                simp only [Array.length_toList] at hlen
                rw [← hlen, h3, repl_length]
                simp [hzs]
              simp only
              omega
        · cases hb
      · cases hb
    · cases h
  · cases h

theorem makeSlice_does (hi : HI W0 M β s.rw s.ro w) (ht : TI β s a) {t : TypeId} {x y : Operand} {id : Nat} (hid : 900 ≤ id) (hn : β id = none) {r : Res} (h : (aop P s id (.makeSlice t x y)).leaf = some r) :
    Does P W0 M β s w id (Instr.makeSlice t (a.eval x) (a.eval y)) r := by
  simp only [aop] at h
  split at h
  · rename_i e n m hu hx hy
    split at h
    · rename_i k z b hk hz hb
      rw [leaf_cond] at h
      cases hf : Nat.beq n m && Nat.ble (n * k) 4096 && Nat.beq z.length k && Nat.ble (b * n) 65536 && Nat.blt 0 (n * k) && Nat.ble n 65536 with
      | false => simp [hf, T.leaf] at h
      | true =>
        simp only [hf, cond_true] at h
        obtain rfl := newB_leaf h
        simp only [Bool.and_eq_true] at hf
        obtain ⟨⟨⟨⟨⟨f1, f2⟩, f3⟩, f4⟩, f5⟩, f6⟩ := hf
        have g1 := Nat.eq_of_beq_eq_true f1
        have g3 := Nat.eq_of_beq_eq_true f3
        have g4 := Nat.le_of_ble_eq_true f4
        have g5 : 0 < n * k := by simpa [Nat.blt_eq] using f5
        have g6 := Nat.le_of_ble_eq_true f6
        subst g1
        obtain ⟨zv, rfl, hzr, i, hinfo⟩ := zeroA_run hz
        have hzs : zv.cells.size = k := by simpa using g3
        have hbi : i.bytes = b := by rw [hinfo] at hb; simpa using hb
        have hz0 : AVRs β (repl n (zv.cells.toList.map AV.val)) ((Array.range (n * k)).map (zv.cells[· % zv.cells.size]!)).toList := by
          rw [zeros_eq n k zv.cells hzs, repl_pre]
          exact AVRs.vals β _
        obtain ⟨β', p1, p0, p2, p3⟩ := hi.alloc hid hn e hz0.pre
        have hp := ev_sound ht hi hx
        have hq := ev_sound ht hi hy
        simp only [AVR] at hp hq
        have hwrap : IntKind.i64.wrap (Int.ofNat n) = n := by
          simp only [IntKind.wrap, IntKind.bits, IntKind.signed]
          simp only [Int.ofNat_eq_natCast, Bool.true_and, ge_iff_le, decide_eq_true_eq]
          rw [if_neg (by omega)]
          omega
        refine ⟨β', _, .slice (some ⟨w.heap.size, 0, none⟩) n n, ?_, p1, fun j hj => p0 j fun he => hj (he ▸ desc.self _), ?_, p3⟩
        · have hbig : ¬ ((2 : Int) ^ 48 < (b : Int) * (n : Int)) := by
            have : ((b * n : Nat) : Int) ≤ 65536 := by omega
            rw [Int.natCast_mul] at this
            omega
          rw [hp, hq]
          simp only [Instr.makeSlice, Sem.run_bind, run_underlying hu, Result.andThen_ok, asInt, asIntOf, Sem.run_pure, typeInfo, run_program, hinfo, hwrap, hbi]
          rw [if_neg (by simp; omega)]
          simp only [Sem.run_bind, run_askRoom, Result.andThen_ok, size_run hk, Int.toNat_natCast, if_neg (show ¬ n * k = 0 by omega), Sem.run_pure, hzr]
          simp [newRow]
        · simp only [AVR]
          refine ⟨_, n, p2, rfl, Nat.le_refl _, ?_⟩
          simp
    · cases h
  · cases h

end
end Go.Sx

/- 'append' on a slice of the evaluator's own blocks. -/
namespace Go.Sx

section
variable {P : Program} {W0 : World} {M : Nat → Prop} {β : Env} {s : St} {a : Act} {w : World}

theorem HI.sub {rw ro rw' ro' : AH} (h : HI W0 M β rw ro w)
    (hs : ∀ id cs, lk (rw' ++ ro') id = some (some cs) → lk (rw ++ ro) id = some (some cs)) (ho : ∀ id cs, lk rw' id = some (some cs) → lk rw id = some (some cs)) : HI W0 M β rw' ro' w :=
  { os := h.os, tape := h.tape, out := h.out, size := h.size, fr := h.fr, at_ := fun id cs hl => h.at_ id cs (hs id cs hl)
    inj := fun i j r q ci cj hi hj => h.inj i j r q ci cj (hs _ _ hi) (hs _ _ hj), own := fun id cs r hl => h.own id cs r (ho id cs hl), glob := h.glob }

/-- A block that is turned and goes under a new number. -/
theorem HI.moved {rw ro : AH} (h : HI W0 M β rw ro w) {id new : Nat} (hid : 900 ≤ new) (hn : β new = none) {cs : List AV} (hl : lk rw id = some (some cs)) {r : Reg} {arr : Array Value} {ty : TypeId} (hb : β id = some r)
    (hh : w.heap[r.blk]? = some (.cells arr ty (0, 0))) (hs : arr.size = r.size) {cs' : List AV} {arr' : Array Value} (hsz : arr'.size = arr.size) (hc : Pre β cs' arr'.toList) :
    ∃ β', Ext β β' ∧ (∀ j, j ≠ new → β' j = β j) ∧ β' new = some r ∧ HI W0 M β' ((new, some cs') :: (id, none) :: rw) ro (setB w r.blk (.cells arr' ty (0, 0))) := by
  have hni : id ≠ new := fun e => by rw [e, hn] at hb; cases hb
  have hext : Ext β (fun i => if i = new then some r else β i) := fun i q hi => by
    by_cases e : i = new
    · subst e; rw [hn] at hi; cases hi
    · simp [e, hi]
  have hl' : lk (rw ++ ro) id = some (some cs) := lk_append_some hl
  have part : ∀ i c, lk ((new, some cs') :: (id, none) :: rw ++ ro) i = some (some c) → (i = new ∧ c = cs') ∨ (i ≠ new ∧ i ≠ id ∧ lk (rw ++ ro) i = some (some c)) := fun i c hi => by
    rw [List.cons_append, List.cons_append, lk_cons, lk_cons] at hi
    by_cases e : new = i
    · subst e
      simp only [if_true, Option.some.injEq] at hi
      exact .inl ⟨rfl, hi.symm⟩
    · rw [if_neg e] at hi
      by_cases e2 : id = i
      · subst e2
        simp at hi
      · rw [if_neg e2] at hi
        exact .inr ⟨fun x => e x.symm, fun x => e2 x.symm, hi⟩
  have hne : ∀ i c q, i ≠ id → lk (rw ++ ro) i = some (some c) → β i = some q → r.blk ≠ q.blk := fun i c q e hi hbi hq =>
    e (h.inj id i r q cs c hl' hi hb hbi hq).symm
  refine ⟨_, hext, fun j hj => by simp [hj], by simp, ?_⟩
  refine { os := h.os, tape := h.tape, out := h.out, size := by simp only [setB, Array.size_setIfInBounds]; exact h.size, fr := ?_, at_ := ?_, inj := ?_, own := ?_, glob := ?_ }
  · intro b hb' hM
    have hnb : r.blk ≠ b := fun e => by
      rcases h.own id cs r hl hb with h1 | h1
      · exact hM (e ▸ h1)
      · omega
    rw [setB_other hnb]
    exact h.fr b hb' hM
  · intro i c hi
    rcases part i c hi with ⟨rfl, rfl⟩ | ⟨e1, e2, hi⟩
    · exact ⟨r, _, ty, by simp, setB_same hh, by rw [hsz]; exact hs, hc.mono hext⟩
    · obtain ⟨q, a', t', hbi, hhi, hsi, hpi⟩ := h.at_ i c hi
      exact ⟨q, a', t', by simp [e1, hbi], by rw [setB_other (hne i c q e2 hi hbi)]; exact hhi, hsi, hpi.mono hext⟩
  · intro i j p q ci cj hi hj hbi hbj hpq
    rcases part i ci hi with ⟨rfl, rfl⟩ | ⟨e1, e2, hi2⟩ <;> rcases part j cj hj with ⟨rfl, rfl⟩ | ⟨f1, f2, hj2⟩
    · rfl
    · simp only [if_true, Option.some.injEq] at hbi
      simp only [if_neg f1] at hbj
      subst hbi
      exact absurd hpq (hne j cj q f2 hj2 hbj)
    · simp only [if_true, Option.some.injEq] at hbj
      simp only [if_neg e1] at hbi
      subst hbj
      exact absurd hpq.symm (hne i ci p e2 hi2 hbi)
    · simp only [if_neg e1] at hbi
      simp only [if_neg f1] at hbj
      exact h.inj i j p q ci cj hi2 hj2 hbi hbj hpq
  · intro i c q hi hbi
    rw [lk_cons, lk_cons] at hi
    by_cases e : new = i
    · subst e
      simp only [if_true, Option.some.injEq] at hbi
      subst hbi
      exact h.own id cs r hl hb
    · rw [if_neg e] at hi
      by_cases e2 : id = i
      · subst e2; simp at hi
      · rw [if_neg e2] at hi
        simp only [if_neg (show ¬ i = new from fun x => e x.symm)] at hbi
        exact h.own i c q hi hbi
  · intro g q hg hbg
    simp only [if_neg (show g ≠ new by omega)] at hbg
    exact h.glob g q hg hbg

/-- What a slice holds, in the world. -/
theorem newsA_sound (hi : HI W0 M β s.rw s.ro w) {k : Nat} {y : AV} {v : Value} (hv : AVR β y v) {n : Nat} {news : List AV} (h : newsA s k y = some (n, news)) :
    (n = 0 ∧ v = .slice none 0 0) ∨ (∃ (b : Addr) (c : Nat) (xs : List Value), v = .slice (some b) n c ∧ xs.length = n * k ∧ AVRs β news xs ∧ (∀ j u, xs[j]? = some u → w.cell? (b.add j) = some u) ∧ ∀ u ∈ xs, u.oneCell' = true) := by
  unfold newsA at h
  split at h
  · simp only [Option.some.injEq, Prod.mk.injEq] at h
    simp only [AVR] at hv
    exact .inl ⟨h.1.symm, hv⟩
  · rename_i b off m k'
    split at h
    · rename_i cs hl
      cases hf : Nat.beq k' k && Nat.ble (off + m * k) cs.length && ((cs.drop off).take (m * k)).all AV.one with
      | false => simp [hf] at h
      | true =>
        simp only [hf, cond_true, Option.some.injEq, Prod.mk.injEq] at h
        obtain ⟨rfl, rfl⟩ := h
        simp only [Bool.and_eq_true] at hf
        obtain ⟨⟨f1, f2⟩, f3⟩ := hf
        have f2 := Nat.le_of_ble_eq_true f2
        simp only [AVR] at hv
        obtain ⟨q, cap, hq, rfl, _, _⟩ := hv
        obtain ⟨q', arr, ty, hq', hh, hs, hpre⟩ := hi.at_ b cs hl
        rw [hq] at hq'; cases hq'
        have hle := hpre.le
        have hr := (hpre.drop off).take (n := m * k) (by simp; omega)
        simp only [Array.length_toList] at hle
        refine .inr ⟨⟨q.blk, off, none⟩, cap, (arr.toList.drop off).take (m * k), rfl, by simp; omega, hr, fun j u hj => ?_, all_one_rel hr f3⟩
        have hadd : (⟨q.blk, off, none⟩ : Addr).add j = ⟨q.blk, off + j, none⟩ := by unfold Addr.add; split <;> simp_all
        rw [hadd]
        have hj2 : arr[off + j]? = some u := by
          rw [List.getElem?_take] at hj
          split at hj
          · rw [List.getElem?_drop] at hj
            simpa using hj
          · cases hj
        simp [World.cell?, hh, hj2]
    · cases h
  · cases h

theorem run_append_room' {t ty e : TypeId} {i : TypeInfo} (ht : P.underlying t = some (.slice e)) (hi : P.info? e = some i)
    {g sLen sCap : Nat} {cur : Array Value} {tg : TypeId} (hg : w.heap[g]? = some (.cells cur tg (0, 0)))
    {b : Addr} {m c : Nat} {news : List Value} (hl : news.length = m * i.size) (hnews : ∀ j u, news[j]? = some u → w.cell? (b.add j) = some u) (h1 : ∀ u ∈ news, u.oneCell' = true)
    (hroom : sLen + m ≤ sCap) (hfit : sLen * i.size + news.length ≤ cur.size) :
    (Builtin.append_ #[t, t] ty #[.slice (some ⟨g, 0, none⟩) sLen sCap, .slice (some b) m c]).run P w =
      .ok (.slice (some ⟨g, 0, none⟩) (sLen + m) sCap) (setB w g (.cells (over cur (sLen * i.size) news) tg (0, 0))) := by
  have hf := run_firstCells_some (P := P) w i.size m b m c news hl hnews
  have hst := run_storeCells (P := P) g tg (sLen * i.size) news 0 cur w hg h1 (by simpa using hfit)
  simp only [Nat.add_zero] at hst
  simp [Builtin.append_, run_underlying ht, sizeOf, typeInfo, hi, Builtin.lenOf, hroom, hf, Addr.add_lit, hst]

theorem run_append_none {t ty e : TypeId} {i : TypeInfo} (ht : P.underlying t = some (.slice e)) (hi : P.info? e = some i) {b : Option Addr} {n c : Nat} {v : Value} (hnc : n ≤ c)
    (hv : v = .slice none 0 0 ∨ ∃ (q : Addr) (c' : Nat), v = .slice (some q) 0 c') :
    (Builtin.append_ #[t, t] ty #[.slice b n c, v]).run P w = .ok (.slice b n c) w := by
  rcases hv with rfl | ⟨q, c', rfl⟩
  · cases b <;> simp [Builtin.append_, run_underlying ht, sizeOf, typeInfo, hi, Builtin.lenOf, hnc, run_firstCells_none, storeCells]
  · have hf := run_firstCells_some (P := P) w i.size 0 q 0 c' [] (by simp) (by simp)
    cases b <;> simp [Builtin.append_, run_underlying ht, sizeOf, typeInfo, hi, Builtin.lenOf, hnc, hf, storeCells]

theorem cells_at {g : Nat} {cur : Array Value} {tg : TypeId} (hg : w.heap[g]? = some (.cells cur tg (0, 0))) (n : Nat) : ∀ j u, (cur.toList.take n)[j]? = some u → w.cell? ((⟨g, 0, none⟩ : Addr).add j) = some u := fun j u hj => by
  have hadd : (⟨g, 0, none⟩ : Addr).add j = ⟨g, j, none⟩ := by unfold Addr.add; split <;> simp_all
  rw [hadd]
  have hj2 : cur[j]? = some u := by
    rw [List.getElem?_take] at hj
    split at hj
    · simpa using hj
    · cases hj
  simp [World.cell?, hg, hj2]

theorem appendA_does (hi : HI W0 M β s.rw s.ro w) {t ty : TypeId} {x y : AV} {u v : Value} (hu : AVR β x u) (hv : AVR β y v) {id : Nat} (hid : 900 ≤ id) (hn : β id = none) {r : Res} (h : (appendA P s id t x y).leaf = some r) :
    Does P W0 M β s w id (Builtin.append_ #[t, t] ty #[u, v]) r := by
  unfold appendA at h
  split at h
  · rename_i e ht
    split at h
    · rename_i i z hinfo hz
      obtain ⟨zv, rfl, hzr, i', hinfo'⟩ := zeroA_run hz
      have hzv : i.zero = some zv := by
        unfold zeroA at hz
        rw [hinfo] at hz
        simp only [Option.map_eq_some_iff] at hz
        obtain ⟨z', hz', hzz⟩ := hz
        have : (zeroValue e).run P w = .ok z' w := by simp [zeroValue, typeInfo, hinfo, hz']
        rw [hzr] at this
        cases this
        exact hz'
      split at h
      · rename_i l hnews
        have hv' : v = .slice none 0 0 ∨ ∃ (q : Addr) (c' : Nat), v = .slice (some q) 0 c' := by
          rcases newsA_sound hi hv hnews with ⟨_, e⟩ | ⟨b, c, xs, e, _⟩
          · exact .inl e
          · exact .inr ⟨b, c, e⟩
        split at h
        · simp only [T.leaf, Option.some.injEq] at h
          subst h
          simp only [AVR] at hu
          subst hu
          exact Does.pure hi (run_append_none ht hinfo (Nat.le_refl _) hv') (by simp [AVR])
        · simp only [T.leaf, Option.some.injEq] at h
          subst h
          have hu' := hu
          simp only [AVR] at hu
          obtain ⟨q, cap, h1, rfl, h2, h3⟩ := hu
          exact Does.pure hi (run_append_none ht hinfo h2 hv') hu'
        · simp [T.leaf] at h
      · rename_i n news hn0 hnews
        rw [leaf_cond] at h
        cases hc : Nat.beq (zv.cells.toList.map AV.val).length i.size && Nat.blt 0 i.size with
        | false =>
          rw [hc] at h
          cases h
        | true =>
          simp only [hc, cond_true] at h
          simp only [Bool.and_eq_true, Nat.blt_eq] at hc
          have hzs : zv.cells.size = i.size := by simpa using Nat.eq_of_beq_eq_true hc.1
          have hpos := hc.2
          have hnp : 0 < n := by
            rcases Nat.eq_zero_or_pos n with e | e
            · subst e; exact (hn0 rfl).elim
            · exact e
          obtain ⟨b, c, xs, rfl, hxl, hxr, hxc, hx1⟩ : ∃ (b : Addr) (c : Nat) (xs : List Value), v = .slice (some b) n c ∧ xs.length = n * i.size ∧ AVRs β news xs ∧ (∀ j u, xs[j]? = some u → w.cell? (b.add j) = some u) ∧ ∀ u ∈ xs, u.oneCell' = true := by
            rcases newsA_sound hi hv hnews with ⟨e, _⟩ | h
            · omega
            · exact h
          split at h
          · rw [leaf_cond] at h
            cases hb : Nat.ble n 1048576 && Nat.ble (n * i.bytes) 1048576 with
            | false => simp [hb, T.leaf] at h
            | true =>
              simp only [hb, cond_true] at h
              simp only [Bool.and_eq_true] at hb
              have b1 := Nat.le_of_ble_eq_true hb.1
              have b2 := Nat.le_of_ble_eq_true hb.2
              obtain rfl := newB_leaf h
              simp only [AVR] at hu
              subst hu
              have hrun := run_append_nil (P := P) (w := w) t ty e i zv ht hinfo hzv b n c xs hxl hxc hnp (by omega) (by omega)
              have hp : Pre β news (xs.toArray ++ Builtin.zeroCells zv.cells (grownCap w n 0 e - n)).toList := fun j a hj => by
                obtain ⟨y', h1, h2⟩ := hxr.pre j a hj
                refine ⟨y', ?_, h2⟩
                rw [Array.toList_append, List.getElem?_append_left (by simpa using (List.getElem?_eq_some_iff.1 h1).1)]
                simpa using h1
              obtain ⟨β', p1, p0, p2, p3⟩ := hi.drew.alloc hid hn e hp
              refine ⟨β', _, _, hrun, p1, fun j hj => p0 j fun he => hj (he ▸ desc.self _), ?_, p3⟩
              simp only [AVR]
              have hge := grownCap_ge w n 0 e
              refine ⟨_, _, p2, rfl, hge, ?_⟩
              simp only [Array.size_append, List.size_toArray, size_zeroCells, hxl, hzs, Nat.zero_add]
              rw [← Nat.add_mul]
              exact Nat.mul_le_mul_right _ (by omega)
          · rename_i b' len k
            split at h
            · rename_i cs hl
              rw [leaf_cond] at h
              cases hb : Nat.beq k i.size && Nat.ble (len * k) cs.length && Nat.ble (len + n) 1048576 && Nat.ble ((len + n) * i.bytes) 1048576 with
              | false => simp [hb, T.leaf] at h
              | true =>
                simp only [hb, cond_true, T.leaf, Option.some.injEq] at h
                subst h
                simp only [Bool.and_eq_true] at hb
                obtain ⟨⟨⟨f1, f2⟩, f3⟩, f4⟩ := hb
                obtain rfl := Nat.eq_of_beq_eq_true f1
                have f2 := Nat.le_of_ble_eq_true f2
                have f3 := Nat.le_of_ble_eq_true f3
                have f4 := Nat.le_of_ble_eq_true f4
                simp only [AVR] at hu
                obtain ⟨q, cap, hq, rfl, hlc, hcap⟩ := hu
                obtain ⟨q', arr, tg, hq', hh, hs, hpre⟩ := hi.at_ b' cs (lk_append_some hl)
                rw [hq] at hq'; cases hq'
                have hle := hpre.le
                simp only [Array.length_toList] at hle
                have hold := hpre.take (n := len * i.size) f2
                have hxlen := hxr.length
                simp only [Nat.zero_add] at hcap
                by_cases hroom : len + n ≤ cap
                · have hfit : len * i.size + xs.length ≤ arr.size := by
                    rw [hxl, ← Nat.add_mul, hs]
                    exact Nat.le_trans (Nat.mul_le_mul_right _ hroom) hcap
                  have hrun := run_append_room' (P := P) (ty := ty) (c := c) ht hinfo hh hxl hxc hx1 hroom hfit
                  have hp : Pre β (cs.take (len * i.size) ++ news) (over arr (len * i.size) xs).toList := fun j a hj => by
                    rw [Array.getElem?_toList, over_get xs arr _ _ hfit]
                    have hol : (cs.take (len * i.size)).length = len * i.size := by simp; omega
                    by_cases hj1 : j < len * i.size
                    · rw [List.getElem?_append_left (by omega)] at hj
                      rw [if_neg (by omega)]
                      have hj' : cs[j]? = some a := by
                        rw [List.getElem?_take, if_pos hj1] at hj
                        exact hj
                      simpa using hpre j a hj'
                    · rw [List.getElem?_append_right (by omega), hol] at hj
                      have := (List.getElem?_eq_some_iff.1 hj).1
                      rw [if_pos (by omega)]
                      exact hxr.pre _ _ hj
                  obtain ⟨β', p1, p0, p2, p3⟩ := hi.moved hid hn hl hq hh hs (over_size _ _ _) hp
                  refine ⟨β', _, _, hrun, p1, fun j hj => p0 j fun he => hj (he ▸ desc.self _), ?_, p3⟩
                  simp only [AVR]
                  exact ⟨_, _, p2, rfl, hroom, by simpa using hcap⟩
                · have hfits := growslice_fits (need := len + n) (old := cap) (bytes := i.bytes) (by omega) (by omega)
                  have hrun := run_append_grow (P := P) (w := w) t ty e i zv ht hinfo hzv ⟨q.blk, 0, none⟩ len cap (arr.toList.take (len * i.size)) (by simp; omega) (cells_at hh _) b n c xs hxl hxc (by omega) (by omega) hfits
                  have hp : Pre β (cs.take (len * i.size) ++ news) ((arr.toList.take (len * i.size)).toArray ++ xs.toArray ++ Builtin.zeroCells zv.cells (grownCap w (len + n) cap e - (len + n))).toList := fun j a hj => by
                    have hall : AVRs β (cs.take (len * i.size) ++ news) (arr.toList.take (len * i.size) ++ xs) := by
                      have : ∀ {a b : List AV} {x y : List Value}, AVRs β a x → AVRs β b y → AVRs β (a ++ b) (x ++ y) := by
                        intro a
                        induction a with
                        | nil =>
                          intro b x y h k
                          cases x with
                          | nil => simpa using k
                          | cons _ _ => simp [AVRs] at h
                        | cons a0 a ih =>
                          intro b x y h k
                          cases x with
                          | nil => simp [AVRs] at h
                          | cons x0 x =>
                            simp only [AVRs] at h
                            simp only [List.cons_append, AVRs]
                            exact ⟨h.1, ih h.2 k⟩
                      exact this hold hxr
                    obtain ⟨y', h1, h2⟩ := hall.pre j a hj
                    refine ⟨y', ?_, h2⟩
                    rw [Array.toList_append, Array.toList_append, List.getElem?_append_left (by simpa using (List.getElem?_eq_some_iff.1 h1).1)]
                    simpa using h1
                  obtain ⟨β', p1, p0, p2, p3⟩ := hi.drew.alloc hid hn e hp
                  refine ⟨β', _, _, hrun, p1, fun j hj => p0 j fun he => hj (he ▸ desc.self _), ?_, ?_⟩
                  · simp only [AVR]
                    have hge := grownCap_ge w (len + n) cap e
                    refine ⟨_, _, p2, rfl, hge, ?_⟩
                    simp only [Array.size_append, List.size_toArray, size_zeroCells, hxl, hzs, Nat.zero_add, List.length_take, Array.length_toList]
                    rw [Nat.min_eq_left (by omega), ← Nat.add_mul, ← Nat.add_mul]
                    exact Nat.mul_le_mul_right _ (by omega)
                  · have hni : id ≠ b' := fun e => by rw [← e, hn] at hq; cases hq
                    refine p3.sub (fun j cs' hj => ?_) (fun j cs' hj => ?_)
                    · simp only [List.cons_append, List.nil_append, lk_cons] at hj ⊢
                      by_cases e1 : id = j
                      · simpa [e1] using hj
                      · rw [if_neg e1] at hj ⊢
                        by_cases e2 : b' = j
                        · rw [if_pos e2] at hj; cases hj
                        · rw [if_neg e2] at hj; exact hj
                    · simp only [List.cons_append, List.nil_append, lk_cons] at hj ⊢
                      by_cases e1 : id = j
                      · simpa [e1] using hj
                      · rw [if_neg e1] at hj ⊢
                        by_cases e2 : b' = j
                        · rw [if_pos e2] at hj; cases hj
                        · rw [if_neg e2] at hj; exact hj
            · simp [T.leaf] at h
          · simp [T.leaf] at h
      · simp [T.leaf] at h
    · simp [T.leaf] at h
  · simp [T.leaf] at h

end
end Go.Sx

/- Regions, code, calls: what the evaluator says of them is what the model does. -/
namespace Go.Sx

theorem execOp_value {P : Program} {a : Act} {o : Oper} {e : Sem Value} {w w' : World} {x : Value} (he : execOp a.eval o = (e >>= fun x => Pure.pure (Next.value x) : Sem Next)) (hr : e.run P w = .ok x w')
    {K : Act → World → Prop} {Q : Exit → Act → World → Prop} (hk : K (a.put o.dst x) w') : o.wp P a w K Q := by
  unfold Oper.wp
  rw [he]
  simp only [Sem.run_bind, hr, Result.andThen_ok, Sem.run_pure, Oper.upon]
  exact hk

theorem execOp_skip {P : Program} {a : Act} {o : Oper} {e : Sem Unit} {w w' : World} (he : execOp a.eval o = (e >>= fun _ => Pure.pure Next.skip : Sem Next)) (hr : e.run P w = .ok () w')
    {K : Act → World → Prop} {Q : Exit → Act → World → Prop} (hk : K (a.put o.dst undef) w') : o.wp P a w K Q := by
  unfold Oper.wp
  rw [he]
  simp only [Sem.run_bind, hr, Result.andThen_ok, Sem.run_pure, Oper.upon]
  exact hk

section
variable {P : Program} {W0 : World} {M : Nat → Prop} {β : Env} {s : St} {a : Act} {w : World}

/-- What is to be shown of an operation in a frame. -/
def Goes (P : Program) (W0 : World) (M : Nat → Prop) (β : Env) (s : St) (a : Act) (w : World) (id : Nat) (o : Oper) (v : AV) (rw : AH) : Prop :=
  ∃ β' w' x, Ext β β' ∧ Loc id β β' ∧ AVR β' v x ∧ HI W0 M β' rw s.ro w' ∧ ∀ (K : Act → World → Prop) (Q : Exit → Act → World → Prop), K (a.put o.dst x) w' → o.wp P a w K Q

theorem Does.goes {o : Oper} {e : Sem Value} {r : Res} (he : execOp a.eval o = (e >>= fun x => Pure.pure (Next.value x) : Sem Next)) {id : Nat} (h : Does P W0 M β s w id e r) : Goes P W0 M β s a w id o r.1 (r.2 ++ s.rw) :=
  let ⟨β', w', x, h1, h2, h2', h3, h4⟩ := h
  ⟨β', w', x, h2, h2', h3, h4, fun _ _ hk => execOp_value he h1 hk⟩

theorem eqTop_sound {t : TypeId} {x y : AV} {r : Bool} {u v : Value} (h : eqTop P t x y = some r) (hx : AVR β x u) (hy : AVR β y v) (w : World) (p q : Operand) :
    (eqGuard .eql t p q u v).run P w = .ok () w ∧ (eqGuard .neq t p q u v).run P w = .ok () w ∧ (Go.binOp .eql t u v).run P w = .ok (.bool r) w ∧ (Go.binOp .neq t u v).run P w = .ok (.bool (!r)) w := by
  have gen : ∀ {x y : AV} {u v : Value}, eqA P 100 t x y = some r → AVR β x u → AVR β y v → (Op.equal t u v).run P w = .ok r w := fun h hx hy =>
    eqA_sound (P := P) 9900 h hx hy w
  unfold eqTop at h
  split at h
  · simp only [AVR] at hx hy
    subst hx; subst hy
    split at h
    · rename_i hk
      subst hk
      cases h
      refine ⟨rfl, rfl, ?_, ?_⟩
      · simp [Go.binOp, Op.intCmp]
      · simp [Go.binOp, Op.intCmp]; rfl
    · cases h
  · simp only [AVR] at hx hy
    subst hx; subst hy
    cases h
    refine ⟨rfl, rfl, ?_, ?_⟩
    · simp [Go.binOp, Op.stringOp]
    · simp [Go.binOp, Op.stringOp]
  · cases hg : P.eqGuardType P.depth t with
    | true => simp [hg] at h
    | false =>
      simp only [hg, cond_false] at h
      have h' := gen h hx hy
      simp only [AVR] at hx hy
      obtain ⟨us, rfl, hx⟩ := hx
      obtain ⟨vs, rfl, hy⟩ := hy
      refine ⟨run_eqGuard_agg w _ t p q us vs hg, run_eqGuard_agg w _ t p q us vs hg, ?_, ?_⟩
      · simp [Go.binOp, h']
      · simp [Go.binOp, h']
  · have h' := gen h hx hy
    simp only [AVR] at hx
    subst hx
    refine ⟨by cases v <;> rfl, by cases v <;> rfl, ?_, ?_⟩ <;> (cases v <;> simp [Go.binOp, h'])
  · have h' := gen h hx hy
    simp only [AVR] at hx
    subst hx
    refine ⟨by cases v <;> rfl, by cases v <;> rfl, ?_, ?_⟩ <;> (cases v <;> simp [Go.binOp, h'])
  · have h' := gen h hx hy
    simp only [AVR] at hx
    obtain ⟨_, _, rfl⟩ := hx
    refine ⟨by cases v <;> rfl, by cases v <;> rfl, ?_, ?_⟩ <;> (cases v <;> simp [Go.binOp, h'])
  · have h' := gen h hx hy
    simp only [AVR] at hx
    subst hx
    refine ⟨by cases v <;> rfl, by cases v <;> rfl, ?_, ?_⟩ <;> (cases v <;> simp [Go.binOp, h'])
  · have h' := gen h hx hy
    simp only [AVR] at hx
    obtain ⟨_, _, _, rfl, _⟩ := hx
    refine ⟨by cases v <;> rfl, by cases v <;> rfl, ?_, ?_⟩ <;> (cases v <;> simp [Go.binOp, h'])
  · have h' := gen h hx hy
    simp only [AVR] at hx
    obtain ⟨_, _, rfl, _⟩ := hx
    refine ⟨by cases v <;> rfl, by cases v <;> rfl, ?_, ?_⟩ <;> (cases v <;> simp [Go.binOp, h'])
  · have h' := gen h hx hy
    simp only [AVR] at hx
    subst hx
    refine ⟨by cases v <;> rfl, by cases v <;> rfl, ?_, ?_⟩ <;> (cases v <;> simp [Go.binOp, h'])
  · cases h

theorem ite_leaf {α : Type} {b : Bool} {x y : T α} {r : α} (h : (T.ite b x y).leaf = some r) : (b = true ∧ x.leaf = some r) ∨ (b = false ∧ y.leaf = some r) := by
  cases b
  · exact .inr ⟨rfl, h⟩
  · exact .inl ⟨rfl, h⟩

theorem binOther (op : BinOp) (t : TypeId) (p q : Operand) (u v : Value) (h1 : op ≠ .eql) (h2 : op ≠ .neq) (w : World) : (eqGuard op t p q u v).run P w = .ok () w := by
  cases op <;> first | exact absurd rfl h1 | exact absurd rfl h2 | rfl

theorem lenA_sound {t : TypeId} {x : AV} {n : Int} (h : lenA P t x = some n) {u : Value} (hx : AVR β x u) (ts : Array TypeId) (ht : ts[0]? = some t) (ty : TypeId) (w : World) :
    (Builtin.len_ ts ty #[u]).run P w = .ok (.int .i64 n) w := by
  have hm : Builtin.len_ ts ty #[u] = (do
      match ← underlying t, u with
      | .string, .string s => pure (goInt s.size)
      | .array n _, _ => pure (goInt n)
      | .pointer arr, _ =>
        let .array n _ ← underlying arr | stuck "len: pointer to array expected"
        pure (goInt n)
      | .slice _, .slice _ n _ => pure (goInt n)
      | .map _ _, .map none | .chan _ _, .chan none => pure (goInt 0)
      | .map _ _, .map (some r) =>
        let .map entries _ ← getObj r | stuck "len: map expected"
        pure (goInt entries.size)
      | .chan _ _, .chan (some r) =>
        let .chan _ buf _ _ _ timer ← getObj r | stuck "len: channel expected"
        pure (goInt (if timer then 0 else buf.size))
      | _, _ => stuck "len: string, array, pointer to array, slice, map or channel expected") := by
    simp only [Builtin.len_, ht]; rfl
  rw [hm]
  unfold lenA at h
  split at h
  · rename_i hu
    simp only [AVR] at hx
    obtain ⟨_, _, _, rfl, _⟩ := hx
    cases h
    simp [run_underlying hu, goInt]
  · rename_i hu
    simp only [AVR] at hx
    subst hx
    cases h
    simp [run_underlying hu, goInt]
  · rename_i hu
    simp only [AVR] at hx
    subst hx
    cases h
    simp [run_underlying hu, goInt]
  · rename_i hu
    cases h
    simp only [Sem.run_bind, run_underlying hu, Result.andThen_ok]
    cases u <;> rfl
  · cases h

theorem vals_sound {β : Env} : ∀ {l : List AV} {vs xs : List Value}, vals l = some vs → AVRs β l xs → xs = vs
  | [], vs, xs, h, k => by
    cases xs with
    | nil => simpa [vals] using h
    | cons _ _ => simp [AVRs] at k
  | x :: r, vs, xs, h, k => by
    cases xs with
    | nil => simp [AVRs] at k
    | cons y ys =>
      simp only [AVRs] at k
      unfold vals at h
      split at h
      · rename_i e
        cases e
      · rename_i v r' e
        cases e
        split at h
        · rename_i l hl
          cases h
          have := vals_sound hl k.2
          have hy := k.1
          simp only [AVR] at hy
          rw [hy, this]
        · cases h
      · cases h

theorem aop_sound (hi : HI W0 M β s.rw s.ro w) (ht : TI β s a) {o : Oper} {id : Nat} {r : Res} (hid : 900 ≤ id) (hn : β id = none) (hnc : isCall o.op = false) (h : (aop P s id o.op).leaf = some r) : Goes P W0 M β s a w id o r.1 (r.2 ++ s.rw) := by
  obtain ⟨dst, op, type, pos, after, guard⟩ := o
  cases op with
  | move x | assign x =>
    obtain ⟨h1, h2⟩ := one_leaf h
    rw [h2]
    exact ⟨β, w, _, Ext.refl _, Loc.refl _ _, ev_sound ht hi h1, hi, fun K Q hk => by unfold Oper.wp; simp only [execOp, Sem.run_pure, Oper.upon]; exact hk⟩
  | pick c x y =>
    simp only [aop] at h
    split at h
    · rename_i t u v hc hx hy
      have h1 := ev_sound ht hi hc
      simp only [AVR] at h1
      rcases ite_leaf h with ⟨rfl, h2⟩ | ⟨rfl, h2⟩ <;> (simp only [T.leaf, Option.some.injEq] at h2; subst h2)
      · exact ⟨β, w, _, Ext.refl _, Loc.refl _ _, ev_sound ht hi hx, hi, fun K Q hk => by unfold Oper.wp; simp only [execOp, h1, asBool]; simpa [Oper.upon] using hk⟩
      · exact ⟨β, w, _, Ext.refl _, Loc.refl _ _, ev_sound ht hi hy, hi, fun K Q hk => by unfold Oper.wp; simp only [execOp, h1, asBool]; simpa [Oper.upon] using hk⟩
    · cases h
  | alloc t => exact (alloc_does hi hid hn h).goes rfl
  | box t x => exact (box_does hi ht hid hn h).goes rfl
  | build t ps => exact (build_does hi ht h).goes rfl
  | buildSlice t n ps => exact (buildSlice_does hi ht hid hn h).goes rfl
  | load t x => exact (load_does hi ht h).goes rfl
  | store t x y =>
    obtain ⟨w', h1, h2, h3⟩ := store_does hi ht h
    exact ⟨β, w', undef, Ext.refl _, Loc.refl _ _, by rw [h2]; simp [AVR], h3, fun K Q hk => execOp_skip rfl h1 hk⟩
  | nilCheck x =>
    simp only [aop] at h
    split at h
    · rename_i i off hx
      simp only [T.leaf, Option.some.injEq] at h
      subst h
      have h1 := ev_sound ht hi hx
      refine ⟨β, w, _, Ext.refl _, Loc.refl _ _, h1, hi, fun K Q hk => ?_⟩
      have h1' := h1
      simp only [AVR] at h1'
      obtain ⟨q, _, h1'⟩ := h1'
      rw [h1'] at hk
      unfold Oper.wp
      simp only [execOp, h1', Sem.run_pure, Oper.upon]
      exact hk
    · rename_i f fs cs hx
      simp only [T.leaf, Option.some.injEq] at h
      subst h
      have h1 := ev_sound ht hi hx
      refine ⟨β, w, _, Ext.refl _, Loc.refl _ _, h1, hi, fun K Q hk => ?_⟩
      have h1' := h1
      simp only [AVR] at h1'
      obtain ⟨q, q', h1', _⟩ := h1'
      rw [h1'] at hk
      unfold Oper.wp
      simp only [execOp, h1', Sem.run_pure, Oper.upon]
      exact hk
    · cases h
  | fieldAddr t x f => exact (fieldAddr_does hi ht h).goes rfl
  | field t x f => exact (field_does hi ht h).goes rfl
  | indexAddr t x y => exact (indexAddr_does hi ht h).goes rfl
  | index t x y => exact (index_does hi ht h).goes rfl
  | extract x i => exact (extract_does hi ht h).goes rfl
  | makeSlice t x y => exact (makeSlice_does hi ht hid hn h).goes rfl
  | binOp op t x y yt =>
    by_cases he : op = .eql
    · subst he
      simp only [aop] at h
      split at h
      · rename_i u v hx hy
        split at h
        · rename_i b hb
          simp only [T.leaf, Option.some.injEq] at h
          subst h
          obtain ⟨h1, _, h3, _⟩ := eqTop_sound hb (ev_sound ht hi hx) (ev_sound ht hi hy) w x y
          exact ⟨β, w, .bool b, Ext.refl _, Loc.refl _ _, by simp [AVR], hi, fun K Q hk => by unfold Oper.wp; simp only [execOp, Sem.run_bind, h1, h3, Result.andThen_ok, Sem.run_pure, Oper.upon]; exact hk⟩
        · cases h
      · cases h
    · by_cases hn : op = .neq
      · subst hn
        simp only [aop] at h
        split at h
        · rename_i u v hx hy
          split at h
          · rename_i b hb
            simp only [T.leaf, Option.some.injEq] at h
            subst h
            obtain ⟨_, h1, _, h3⟩ := eqTop_sound hb (ev_sound ht hi hx) (ev_sound ht hi hy) w x y
            exact ⟨β, w, .bool (!b), Ext.refl _, Loc.refl _ _, by simp [AVR], hi, fun K Q hk => by unfold Oper.wp; simp only [execOp, Sem.run_bind, h1, h3, Result.andThen_ok, Sem.run_pure, Oper.upon]; exact hk⟩
          · cases h
        · cases h
      · have h' : (match ev s x, ev s y with
          | some (.val a), some (.val b) => one ((pureRun P (Go.binOp op t a b)).map .val)
          | _, _ => (.fail : T Res)).leaf = some r := by
          cases op <;> first | exact absurd rfl he | exact absurd rfl hn | exact h
        split at h'
        · rename_i u v hx hy
          obtain ⟨h1, h2⟩ := one_leaf h'
          simp only [Option.map_eq_some_iff] at h1
          obtain ⟨y', hy', hr⟩ := h1
          have e1 := ev_sound ht hi hx
          have e2 := ev_sound ht hi hy
          simp only [AVR] at e1 e2
          rw [h2, ← hr]
          exact ⟨β, w, y', Ext.refl _, Loc.refl _ _, by simp [AVR], hi, fun K Q hk => by
            unfold Oper.wp
            simp only [execOp, Sem.run_bind, binOther op t x y _ _ he hn w, e1, e2, pureRun_sound hy' w, Result.andThen_ok, Sem.run_pure, Oper.upon]
            exact hk⟩
        · cases h'
  | unOp op t x =>
    simp only [aop] at h
    split at h
    · rename_i u hx
      obtain ⟨h1, h2⟩ := one_leaf h
      simp only [Option.map_eq_some_iff] at h1
      obtain ⟨y', hy', hr⟩ := h1
      have e1 := ev_sound ht hi hx
      simp only [AVR] at e1
      rw [h2, ← hr]
      exact ⟨β, w, y', Ext.refl _, Loc.refl _ _, by simp [AVR], hi, fun K Q hk => by
        unfold Oper.wp
        simp only [execOp, Sem.run_bind, e1, pureRun_sound hy' w, Result.andThen_ok, Sem.run_pure, Oper.upon]
        exact hk⟩
    · cases h
  | convert t t' x =>
    simp only [aop] at h
    split at h
    · rename_i u hx
      obtain ⟨h1, h2⟩ := one_leaf h
      simp only [Option.map_eq_some_iff] at h1
      obtain ⟨y', hy', hr⟩ := h1
      have e1 := ev_sound ht hi hx
      simp only [AVR] at e1
      rw [h2, ← hr]
      exact ⟨β, w, y', Ext.refl _, Loc.refl _ _, by simp [AVR], hi, fun K Q hk => by
        unfold Oper.wp
        simp only [execOp, Sem.run_bind, e1, pureRun_sound hy' w, Result.andThen_ok, Sem.run_pure, Oper.upon]
        exact hk⟩
    · cases h
  | makeFunc f first captured =>
    simp only [aop] at h
    split at h
    · rename_i l1 l2 hx hy
      simp only [T.leaf, Option.some.injEq] at h
      subst h
      refine ⟨β, w, .func f (first.map a.eval) (captured.map a.eval), Ext.refl _, Loc.refl _ _, ?_, hi, fun K Q hk => by unfold Oper.wp; simp only [execOp, Instr.makeFunc, Sem.run_bind, Sem.run_pure, Result.andThen_ok, Oper.upon]; exact hk⟩
      simp only [AVR]
      exact ⟨_, _, rfl, by simpa using evAll_sound ht hi hx, by simpa using evAll_sound ht hi hy⟩
    · cases h
  | call c =>
    obtain ⟨callee, args, ts⟩ := c
    cases callee with
    | value f => simp [isCall] at hnc
    | invoke r m => simp [aop, T.leaf] at h
    | builtin b =>
      cases b <;> try (simp [aop, T.leaf] at h; done)
      case min =>
        simp only [aop] at h
        split at h
        · rename_i l hx
          split at h
          · rename_i vs hvs
            obtain ⟨h1, h2⟩ := one_leaf h
            simp only [Option.map_eq_some_iff] at h1
            obtain ⟨y', hy', hr⟩ := h1
            have hargs := evAll_sound ht hi hx
            have hv := vals_sound hvs hargs
            have hav : args.map a.eval = vs.toArray := by
              apply Array.toList_inj.1
              simpa using hv
            rw [h2, ← hr]
            refine ⟨β, w, y', Ext.refl _, Loc.refl _ _, by simp [AVR], hi, fun K Q hk => ?_⟩
            have hrun : (Builtin.min_ ts type vs.toArray).run P w = .ok y' w := pureRun_sound hy' w
            unfold Oper.wp
            simp only [execOp, resolve, hav, Sem.run_bind, Sem.run_pure, Result.andThen_ok, invoke, builtin, hrun, Oper.upon]
            exact hk
          · simp [T.leaf] at h
        · cases h
      case max =>
        simp only [aop] at h
        split at h
        · rename_i l hx
          split at h
          · rename_i vs hvs
            obtain ⟨h1, h2⟩ := one_leaf h
            simp only [Option.map_eq_some_iff] at h1
            obtain ⟨y', hy', hr⟩ := h1
            have hargs := evAll_sound ht hi hx
            have hv := vals_sound hvs hargs
            have hav : args.map a.eval = vs.toArray := by
              apply Array.toList_inj.1
              simpa using hv
            rw [h2, ← hr]
            refine ⟨β, w, y', Ext.refl _, Loc.refl _ _, by simp [AVR], hi, fun K Q hk => ?_⟩
            have hrun : (Builtin.max_ ts type vs.toArray).run P w = .ok y' w := pureRun_sound hy' w
            unfold Oper.wp
            simp only [execOp, resolve, hav, Sem.run_bind, Sem.run_pure, Result.andThen_ok, invoke, builtin, hrun, Oper.upon]
            exact hk
          · simp [T.leaf] at h
        · cases h
      case append =>
        simp only [aop] at h
        split at h
        · rename_i x y t u hx htt
          rw [leaf_cond] at h
          cases hb : Nat.beq t u with
          | false => simp [hb, T.leaf] at h
          | true =>
            simp only [hb, cond_true] at h
            obtain rfl := Nat.eq_of_beq_eq_true hb
            have hargs := evAll_sound ht hi hx
            have htwo : ∃ p q, args.map a.eval = #[p, q] ∧ AVR β x p ∧ AVR β y q := by
              have hlen := hargs.length
              match hl : args.toList, hlen, hargs with
              | [y1, y2], _, hr =>
                simp only [List.map_cons, List.map_nil, AVRs, and_true] at hr
                refine ⟨a.eval y1, a.eval y2, ?_, hr.1, hr.2⟩
                have : args = #[y1, y2] := by
                  apply Array.toList_inj.1
                  simpa using hl
                rw [this]
                simp
            obtain ⟨p, q, h1, h2, h3⟩ := htwo
            have htt' : ts = #[t, t] := by
              apply Array.toList_inj.1
              simpa using htt
            subst htt'
            obtain ⟨β', w', v, g1, g2, g0, g3, g4⟩ := appendA_does (ty := type) hi h2 h3 hid hn h
            refine ⟨β', w', v, g2, g0, g3, g4, fun K Q hk => ?_⟩
            unfold Oper.wp
            simp only [execOp, resolve, h1, Sem.run_bind, Sem.run_pure, Result.andThen_ok, invoke, builtin, g1, Oper.upon]
            exact hk
        · cases h
      case len =>
        simp only [aop] at h
        split at h
        · rename_i x t hx htt
          split at h
          · rename_i n hl
            simp only [T.leaf, Option.some.injEq] at h
            subst h
            have hargs := evAll_sound ht hi hx
            refine ⟨β, w, .int .i64 n, Ext.refl _, Loc.refl _ _, by simp [AVR], hi, fun K Q hk => ?_⟩
            have hone : ∃ u, args.map a.eval = #[u] ∧ AVR β x u := by
              have hlen := hargs.length
              match hl : args.toList, hlen, hargs with
              | [y], _, hr =>
                simp only [List.map_cons, List.map_nil, AVRs, and_true] at hr
                refine ⟨a.eval y, ?_, hr⟩
                have : args = #[y] := by
                  apply Array.toList_inj.1
                  simpa using hl
                rw [this]
                simp
            obtain ⟨u, hu1, hu2⟩ := hone
            unfold Oper.wp
            simp only [execOp, resolve, hu1, Sem.run_bind, Sem.run_pure, Result.andThen_ok, invoke, builtin, lenA_sound hl hu2 ts htt type w, Oper.upon]
            exact hk
          · cases h
        · cases h
  | _ => simp [aop, T.leaf] at h

end
end Go.Sx

/- Regions in the text's order, code, calls. -/
namespace Go.Sx

/-- A call comes to an end, with a value, in a world. -/
def CallOK (P : Program) (f : FuncId) (args : Array Value) (w : World) (R : Value → World → Prop) : Prop :=
  ((callFunc f args).run P w = .ok (.enter f args) w ∧ Calls P f args w fun e w' => ∃ x, e = .returned x ∧ R x w') ∨
  (∃ x w', (callFunc f args).run P w = .ok (.value x) w' ∧ R x w')

/-- What a table of calls says holds. -/
def GoodCall (P : Program) (call : CallF) : Prop :=
  ∀ (f : FuncId) (args : List AV) (rw ro : AH) (base : Nat) (r : Res), (call f args rw ro base).leaf = some r →
    ∀ (W0 : World) (M : Nat → Prop) (β : Env) (w : World) (avs : Array Value), AVRs β args avs.toList → HI W0 M β rw ro w → 1 ≤ base → (∀ j, desc base j → β j = none) →
      CallOK P f avs w fun x w' => ∃ β', Ext β β' ∧ Loc base β β' ∧ AVR β' r.1 x ∧ HI W0 M β' r.2 ro w'

theorem AVRs.append {β : Env} : ∀ {a b : List AV} {x y : List Value}, AVRs β a x → AVRs β b y → AVRs β (a ++ b) (x ++ y)
  | [], _, [], _, _, h => by simpa using h
  | _ :: _, _, _ :: _, _, h, k => by
    simp only [AVRs] at h
    simp only [List.cons_append, AVRs]
    exact ⟨h.1, AVRs.append h.2 k⟩
  | [], _, _ :: _, _, h, _ => by simp [AVRs] at h
  | _ :: _, _, [], _, h, _ => by simp [AVRs] at h

section
variable {P : Program} {W0 : World} {M : Nat → Prop} {β : Env} {s : St} {a : Act} {w : World}

/-- What is to be shown of an operation in a frame, whichever way it goes on. -/
def GoesK (P : Program) (W0 : World) (M : Nat → Prop) (β : Env) (ro : AH) (a : Act) (w : World) (id : Nat) (o : Oper) (v : AV) (rw : AH) : Prop :=
  ∀ (K : Act → World → Prop) (Q : Exit → Act → World → Prop), (∀ β' w' x, Ext β β' → Loc id β β' → AVR β' v x → HI W0 M β' rw ro w' → K (a.put o.dst x) w') → o.wp P a w K Q

theorem Goes.k {id : Nat} {o : Oper} {v : AV} {rw : AH} (h : Goes P W0 M β s a w id o v rw) : GoesK P W0 M β s.ro a w id o v rw := fun K Q hk =>
  let ⟨β', w', x, h1, h1', h2, h3, h4⟩ := h
  h4 K Q (hk β' w' x h1 h1' h2 h3)

theorem acall_sound {call : CallF} (gc : GoodCall P call) (hi : HI W0 M β s.rw s.ro w) (ht : TI β s a) {o : Oper} {f : Operand} {as : Array Operand} {ts : Array TypeId}
    (ho : o.op = .call { callee := .value f, args := as, argTypes := ts }) {id : Nat} {r : Res} (hid : 1 ≤ id) (hn : ∀ j, desc id j → β j = none) (h : (acall call s id f as).leaf = some r) : GoesK P W0 M β s.ro a w id o r.1 r.2 := by
  unfold acall at h
  split at h
  · rename_i g first captured l hf hl
    have h1 := ev_sound ht hi hf
    have h2 := evAll_sound ht hi hl
    simp only [AVR] at h1
    obtain ⟨fs, cs, h1, h3, h4⟩ := h1
    have hargs : AVRs β (first ++ l ++ captured) (fs ++ as.map a.eval ++ cs).toList := by
      simpa using (h3.append h2).append h4
    have hexec : ∀ w', (execOp a.eval o).run P w' = (callFunc g (fs ++ as.map a.eval ++ cs)).run P w' := fun w' => by
      unfold execOp
      simp only [ho, resolve, h1, Deferred.ofValue, Sem.run_bind, Sem.run_pure, Result.andThen_ok, invoke]
    intro K Q hk
    unfold Oper.wp
    rw [hexec]
    rcases gc _ _ _ _ _ _ h W0 M β w _ hargs hi hid hn with ⟨e1, e2⟩ | ⟨x, w', e1, β', e2, e2', e3, e4⟩
    · rw [e1]
      refine e2.mono ?_
      rintro e w' ⟨x, rfl, β', e2, e2', e3, e4⟩
      exact hk β' w' x e2 e2' e3 e4
    · rw [e1]
      exact hk β' w' x e2 e2' e3 e4
  · cases h

theorem stepOp_sound {call : CallF} (gc : GoodCall P call) (hi : HI W0 M β s.rw s.ro w) (ht : TI β s a) {o : Oper} {id : Nat} {r : Res} (hid : 900 ≤ id) (hn : ∀ j, desc id j → β j = none) (h : (stepOp P call s id o.op).leaf = some r) :
    GoesK P W0 M β s.ro a w id o r.1 (s.after o.op r.2).rw := by
  by_cases hc : isCall o.op = true
  · have : ∃ f as ts, o.op = .call { callee := .value f, args := as, argTypes := ts } := by
      unfold isCall at hc
      split at hc
      · rename_i f as ts he
        exact ⟨_, _, _, he⟩
      · cases hc
    obtain ⟨f, as, ts, ho⟩ := this
    rw [ho] at h
    have h' : (acall call s id f as).leaf = some r := h
    have e : (s.after o.op r.2).rw = r.2 := by simp [St.after, hc]
    rw [e]
    exact acall_sound gc hi ht ho (by omega) hn h'
  · have hc' : isCall o.op = false := by simpa using hc
    have h' : (aop P s id o.op).leaf = some r := by
      unfold stepOp at h
      split at h
      · rename_i he; rw [he] at hc'; simp [isCall] at hc'
      · exact h
    have e : (s.after o.op r.2).rw = r.2 ++ s.rw := by simp [St.after, hc']
    rw [e]
    exact (aop_sound hi ht hid (hn id (desc.self id)) hc' h').k

theorem TI.put {d : Option Tmp} {v : AV} {x : Value} {s' : St} (h : TI β s a) (hp : s.put d v = some s') (hv : AVR β v x) : TI β s' (a.put d x) := by
  cases d with
  | none =>
    simp only [St.put, Option.some.injEq] at hp
    subst hp
    exact h
  | some t =>
    simp only [St.put] at hp
    cases hb : Nat.blt t s.n with
    | false => simp [hb] at hp
    | true =>
      simp only [hb, cond_true, Option.some.injEq] at hp
      subst hp
      have hlt : t < s.n := by simpa [Nat.blt_eq] using hb
      refine ⟨by simp [Act.put, h.sz], h.df, fun u y hu => ?_⟩
      rw [lk_cons] at hu
      simp only [Act.put]
      by_cases e : t = u
      · subst e
        simp only [if_true, Option.some.injEq] at hu
        subst hu
        exact ⟨x, by rw [Array.getElem?_setIfInBounds_self_of_lt (by rw [h.sz]; exact hlt)], hv⟩
      · rw [if_neg e] at hu
        rw [Array.getElem?_setIfInBounds_ne e]
        exact h.tm u y hu

theorem put_fields {d : Option Tmp} {v : AV} {s' : St} (hp : s.put d v = some s') : s'.rw = s.rw ∧ s'.ro = s.ro ∧ s'.p = s.p ∧ s'.next = s.next ∧ s'.n = s.n := by
  cases d with
  | none =>
    simp only [St.put, Option.some.injEq] at hp
    subst hp
    exact ⟨rfl, rfl, rfl, rfl, rfl⟩
  | some t =>
    simp only [St.put] at hp
    cases hb : Nat.blt t s.n with
    | false => simp [hb] at hp
    | true =>
      simp only [hb, cond_true, Option.some.injEq] at hp
      subst hp
      exact ⟨rfl, rfl, rfl, rfl, rfl⟩

theorem TI.after (h : TI β s a) (o : Op) (r : AH) : TI β (s.after o r) a := ⟨h.sz, h.df, h.tm⟩

theorem put_same {t : Tmp} {x : Value} (h : a.tmps[t]? = some x) : a.put (some t) x = a := by
  obtain ⟨tm, df⟩ := a
  simp only [Act.put]
  congr 1
  simp only at h
  apply Array.ext_getElem?
  intro i
  by_cases e : t = i
  · subst e
    have := (Array.getElem?_eq_some_iff.1 h).1
    rw [Array.getElem?_setIfInBounds_self_of_lt this, h]
  · rw [Array.getElem?_setIfInBounds_ne e]

/-- The numbers from the c-th operation on are free. -/
def FI (β : Env) (p c : Nat) : Prop := ∀ c', c ≤ c' → c' < 65536 → ∀ j, desc (idOf p c') j → β j = none

theorem FI.mono {p c d : Nat} (h : FI β p c) (hd : c ≤ d) : FI β p d := fun c' h1 h2 => h c' (Nat.le_trans hd h1) h2

theorem FI.next {p c : Nat} {β' : Env} (hp : 1 ≤ p) (hc : c < 65536) (h : FI β p c) (hl : Loc (idOf p c) β β') : FI β' p (c + 1) := fun c' h1 h2 j hj => by
  rw [hl j (fun hd => desc.apart hp hc h2 (by omega) hd hj)]
  exact h c' (by omega) h2 j hj

def Same (s s' : St) : Prop := s'.ro = s.ro ∧ s'.p = s.p ∧ s'.n = s.n

theorem Same.refl (s : St) : Same s s := ⟨rfl, rfl, rfl⟩
theorem Same.trans {a b c : St} (h : Same a b) (k : Same b c) : Same a c := ⟨k.1.trans h.1, k.2.1.trans h.2.1, k.2.2.trans h.2.2⟩

theorem useHint_sound {h : Option Hint} {u v : AV} (e : (useHint h u).leaf = some v) {x : Value} (hr : AVR β u x) : AVR β v x := by
  unfold useHint at e
  split at e
  · rename_i m k n
    cases hb : n == m with
    | false => simp [hb, T.leaf] at e
    | true =>
      simp only [hb, T.leaf, cond_true, Option.some.injEq] at e
      subst e
      have hmn : n = m := by simpa using hb
      subst hmn
      exact hr
  · rename_i b b'
    cases hb : b' == b with
    | false => simp [hb, T.leaf] at e
    | true =>
      simp only [hb, T.leaf, cond_true, Option.some.injEq] at e
      subst e
      have hbb : b' = b := by simpa using hb
      subst hbb
      exact hr
  · rename_i b
    cases b <;> (simp only [T.leaf, cond_true, cond_false, Option.some.injEq] at e; subst e; exact hr)
  · simp only [T.leaf, Option.some.injEq] at e
    subst e
    exact hr

theorem doOp_sound {call : CallF} (gc : GoodCall P call) {c : Nat} {o : Oper} {s s' : St} (h : (doOp P call s c o).leaf = some s') {β : Env} {a : Act} {w : World} (ht : TI β s a) (hi : HI W0 M β s.rw s.ro w)
    (hp : 1 ≤ s.p) (hf : FI β s.p c) {K : Act → World → Prop} {Q : Exit → Act → World → Prop}
    (hk : ∀ β' a' w', Ext β β' → Loc s.p β β' → FI β' s.p (c + 1) → TI β' s' a' → HI W0 M β' s'.rw s'.ro w' → Same s s' → K a' w') : o.wp P a w K Q := by
  unfold doOp at h
  rw [leaf_cond] at h
  cases hc : Nat.blt c 65536 with
  | false => simp [hc, T.leaf] at h
  | true =>
    simp only [hc, cond_true] at h
    have hc : c < 65536 := by simpa [Nat.blt_eq] using hc
    rw [T.leaf_bind, Option.bind_eq_some_iff] at h
    obtain ⟨r, h1, h2⟩ := h
    rw [T.leaf_bind, Option.bind_eq_some_iff] at h2
    obtain ⟨v, h0, h2⟩ := h2
    rw [leaf_opt] at h2
    obtain ⟨f1, f2, f3, f4, f5⟩ := put_fields h2
    refine stepOp_sound gc hi ht (by unfold idOf; omega) (fun j hj => hf c (Nat.le_refl _) hc j hj) h1 _ _ fun β' w' x e1 e0 e2 e3 => ?_
    have ht2 : TI β' s' (a.put o.dst x) := ((ht.mono e1).after o.op r.2).put h2 (useHint_sound h0 e2)
    exact hk β' _ w' e1 (e0.up hc) (hf.next hp hc e0) ht2 (by rw [f1, f2]; exact e3) ⟨f2, f3, f5⟩

/-- The operations of a region in the text's order. -/
theorem runOps_sound {call : CallF} (gc : GoodCall P call) {ops : Array Oper} {Q : Exit → Act → World → Prop} : ∀ {l : List Oper} {c : Nat} {s s' : St}, (runOps P call ops l c s).leaf = some s' →
    ∀ {β : Env} {a : Act} {w : World}, TI β s a → HI W0 M β s.rw s.ro w → 1 ≤ s.p → FI β s.p c →
    (∀ β' a' w', Ext β β' → Loc s.p β β' → FI β' s.p (c + l.length) → TI β' s' a' → HI W0 M β' s'.rw s'.ro w' → Same s s' → Q .normal a' w') → wpList P ops Q l a w
  | [], c, s, s', h, β, a, w, ht, hi, hp, hf, hq => by
    simp only [runOps, T.leaf, Option.some.injEq] at h
    subst h
    exact hq β a w (Ext.refl _) (Loc.refl _ _) hf ht hi (Same.refl _)
  | o :: l, c, s, s', h, β, a, w, ht, hi, hp, hf, hq => by
    -- one operation that is done, and the rest behind it
    have go : ∀ (s : St), ((doOp P call s c o).bind fun s' => runOps P call ops l (c + 1) s').leaf = some s' →
        TI β s a → HI W0 M β s.rw s.ro w → 1 ≤ s.p → FI β s.p c → (∀ β' a' w', Ext β β' → Loc s.p β β' → FI β' s.p (c + (o :: l).length) → TI β' s' a' → HI W0 M β' s'.rw s'.ro w' → Same s s' → Q .normal a' w') →
        o.wp P a w (wpList P ops Q l) Q := by
      intro s h ht hi hp hf hq
      rw [T.leaf_bind, Option.bind_eq_some_iff] at h
      obtain ⟨s2, h1, h3⟩ := h
      refine doOp_sound gc h1 ht hi hp hf fun β' a' w' e1 e0 e00 e2 e3 e4 => ?_
      refine runOps_sound gc h3 e2 e3 (by rw [e4.2.1]; exact hp) (by rw [e4.2.1]; exact e00) fun β2 a2 w2 g1 g0 g00 g2 g3 g4 => ?_
      rw [e4.2.1] at g0 g00
      exact hq β2 a2 w2 (e1.trans g1) (e0.trans g0) (by rw [List.length_cons, show c + (l.length + 1) = c + 1 + l.length by omega]; exact g00) g2 g3 (e4.trans g4)
    simp only [runOps] at h
    unfold wpList
    split at h
    · rename_i hg
      rw [if_pos (by simp [Region.wanted, hg])]
      exact .inl (go s h ht hi hp hf hq)
    · rename_i j want hg
      split at h
      · rename_i g hdst
        split at h
        · rename_i b hl
          obtain ⟨u, hu1, hu2⟩ := ht.tm g _ hl
          simp only [AVR] at hu2
          subst hu2
          have hy : yielded ops a.tmps j = some b := by simp [yielded, hdst, hu1]
          have hw : Region.wanted o (yielded ops a.tmps) = (b == want) := by
            simp only [Region.wanted, hg, hy]
            cases b <;> cases want <;> rfl
          rcases ite_leaf h with ⟨hb, h⟩ | ⟨hb, h⟩
          · rw [if_pos (by rw [hw]; exact hb)]
            rw [T.leaf_bind, leaf_opt, Option.bind_eq_some_iff] at h
            obtain ⟨s1, h1, h2⟩ := h
            obtain ⟨f1, f2, f3, f4, f5⟩ := put_fields h1
            have hbw : b = want := by simpa using hb
            subst hbw
            have ht1 : TI β s1 a := by
              have := ht.put h1 (x := .bool b) (by simp [AVR])
              rwa [put_same hu1] at this
            have hs : Same s s1 := ⟨f2, f3, f5⟩
            exact .inl (go s1 h2 ht1 (by rw [f1, f2]; exact hi) (by rw [f3]; exact hp) (by rw [f3]; exact hf) (fun β' a' w' e1 e0 e00 e2 e3 e4 => hq β' a' w' e1 (by rw [← f3]; exact e0) (by rw [← f3]; exact e00) e2 e3 (hs.trans e4)))
          · rw [if_neg (by rw [hw, hb]; simp)]
            rw [T.leaf_bind, leaf_opt, Option.bind_eq_some_iff] at h
            obtain ⟨s1, h1, h2⟩ := h
            rw [T.leaf_bind, leaf_opt, Option.bind_eq_some_iff] at h2
            obtain ⟨s2, h2, h3⟩ := h2
            obtain ⟨f1, f2, f3, f4, f5⟩ := put_fields h1
            obtain ⟨g1, g2, g3, g4, g5⟩ := put_fields h2
            have hbw : b = !want := by cases b <;> cases want <;> simp_all
            subst hbw
            have ht1 : TI β s1 a := by
              have := ht.put h1 (x := .bool (!want)) (by simp [AVR])
              rwa [put_same hu1] at this
            have ht2 : TI β s2 (a.put o.dst undef) := ht1.put h2 (by simp [AVR])
            have hs : Same s s2 := ⟨g2.trans f2, g3.trans f3, g5.trans f5⟩
            have hpp : s2.p = s.p := hs.2.1
            exact runOps_sound gc h3 ht2 (by rw [g1, g2, f1, f2]; exact hi) (by rw [hpp]; exact hp) (by rw [hpp]; exact hf.mono (by omega))
              (fun β' a' w' e1 e0 e00 e2 e3 e4 => hq β' a' w' e1 (by rw [← hpp]; exact e0) (by rw [List.length_cons, show c + (l.length + 1) = c + 1 + l.length by omega, ← hpp]; exact e00) e2 e3 (hs.trans e4))
        · rename_i vs hl
          obtain ⟨u, hu1, hu2⟩ := ht.tm g _ hl
          simp only [AVR] at hu2
          subst hu2
          have hy : yielded ops a.tmps j = none := by simp [yielded, hdst, hu1]
          have hw : Region.wanted o (yielded ops a.tmps) = false := by
            simp only [Region.wanted, hg, hy]
            rfl
          rw [if_neg (by rw [hw]; simp)]
          rw [T.leaf_bind, leaf_opt, Option.bind_eq_some_iff] at h
          obtain ⟨s2, h2, h3⟩ := h
          obtain ⟨g1, g2, g3, g4, g5⟩ := put_fields h2
          have ht2 : TI β s2 (a.put o.dst undef) := ht.put h2 (by simp [AVR])
          have hs : Same s s2 := ⟨g2, g3, g5⟩
          have hpp : s2.p = s.p := hs.2.1
          exact runOps_sound gc h3 ht2 (by rw [g1, g2]; exact hi) (by rw [hpp]; exact hp) (by rw [hpp]; exact hf.mono (by omega))
            (fun β' a' w' e1 e0 e00 e2 e3 e4 => hq β' a' w' e1 (by rw [← hpp]; exact e0) (by rw [List.length_cons, show c + (l.length + 1) = c + 1 + l.length by omega, ← hpp]; exact e00) e2 e3 (hs.trans e4))
        · cases h
      · cases h

def Ex.toExit : Ex → Exit
  | .normal => .normal
  | .exit id => .exit id
  | .ret => .ret

/-- What is to be shown of the regions that draw their order. -/
def GoodDr (P : Program) (dr : Array Oper → St → T St) : Prop :=
  ∀ (id : Nat) (ops : Array Oper) (s s' : St), (dr ops s).leaf = some s' → ∀ (W0 : World) (M : Nat → Prop) (β : Env) (a : Act) (w : World), TI β s a → HI W0 M β s.rw s.ro w →
    1 ≤ s.p → FI β s.p s.next → ∀ Q : Exit → Act → World → Prop,
      (∀ β' a' w', Ext β β' → Loc s.p β β' → FI β' s.p (s.next + ops.size) → TI β' s' a' → HI W0 M β' s'.rw s'.ro w' → Same s s' → Q .normal a' w') → (Code.region id ops true).wp P Q a w

theorem TI.next (h : TI β s a) (n : Nat) : TI β { s with next := n } a := ⟨h.sz, h.df, h.tm⟩

theorem iter_sound {body : St → T (Ex × St)} {c : Code} {Q : Exit → Act → World → Prop}
    (hb : ∀ {s : St} {r : Ex × St}, (body s).leaf = some r → ∀ {β : Env} {a : Act} {w : World}, TI β s a → HI W0 M β s.rw s.ro w → 1 ≤ s.p → FI β s.p s.next → ∀ (Q : Exit → Act → World → Prop),
      (∀ β' a' w', Ext β β' → Loc s.p β β' → FI β' r.2.p r.2.next → TI β' r.2 a' → HI W0 M β' r.2.rw r.2.ro w' → Same s r.2 → Q r.1.toExit a' w') → c.wp P Q a w) :
    ∀ {n : Nat} {s : St} {r : Ex × St}, (iter body n s).leaf = some r → ∀ {β : Env} {a : Act} {w : World}, TI β s a → HI W0 M β s.rw s.ro w → 1 ≤ s.p → FI β s.p s.next →
      (∀ β' a' w', Ext β β' → Loc s.p β β' → FI β' r.2.p r.2.next → TI β' r.2 a' → HI W0 M β' r.2.rw r.2.ro w' → Same s r.2 → Q r.1.toExit a' w') → Code.rounds P c Q n a w
  | 0, s, r, h, _, _, _, _, _, _, _, _ => by simp [iter, T.leaf] at h
  | n + 1, s, r, h, β, a, w, ht, hi, hp, hf, hq => by
    simp only [iter] at h
    rw [T.leaf_bind, Option.bind_eq_some_iff] at h
    obtain ⟨⟨x, s1⟩, h1, h2⟩ := h
    rw [rounds_succ]
    refine hb h1 ht hi hp hf _ fun β' a' w' e1 e0 e00 e2 e3 e4 => ?_
    cases x with
    | normal =>
      exact iter_sound hb h2 e2 e3 (by rw [e4.2.1]; exact hp) e00 fun β2 a2 w2 g1 g0 g00 g2 g3 g4 => hq β2 a2 w2 (e1.trans g1) (e0.trans (by rw [← e4.2.1]; exact g0)) g00 g2 g3 (e4.trans g4)
    | exit id =>
      simp only [T.leaf, Option.some.injEq] at h2
      subst h2
      exact hq β' a' w' e1 e0 e00 e2 e3 e4
    | ret =>
      simp only [T.leaf, Option.some.injEq] at h2
      subst h2
      exact hq β' a' w' e1 e0 e00 e2 e3 e4

theorem runC_sound {call : CallF} (gc : GoodCall P call) {dr : Array Oper → St → T St} (gd : GoodDr P dr) {lf : Nat} : ∀ {c : Code} {s : St} {r : Ex × St}, (runC P call dr lf c s).leaf = some r →
    ∀ {β : Env} {a : Act} {w : World}, TI β s a → HI W0 M β s.rw s.ro w → 1 ≤ s.p → FI β s.p s.next → ∀ (Q : Exit → Act → World → Prop),
      (∀ β' a' w', Ext β β' → Loc s.p β β' → FI β' r.2.p r.2.next → TI β' r.2 a' → HI W0 M β' r.2.rw r.2.ro w' → Same s r.2 → Q r.1.toExit a' w') → c.wp P Q a w := by
  intro c
  induction c with
  | skip =>
    intro s r h β a w ht hi hp hf Q hq
    simp only [runC, T.leaf, Option.some.injEq] at h
    subst h
    exact wp_skip (hq β a w (Ext.refl _) (Loc.refl _ _) hf ht hi (Same.refl _))
  | label l =>
    intro s r h β a w ht hi hp hf Q hq
    simp only [runC, T.leaf, Option.some.injEq] at h
    subst h
    exact wp_label (hq β a w (Ext.refl _) (Loc.refl _ _) hf ht hi (Same.refl _))
  | region id ops draw =>
    intro s r h β a w ht hi hp hf Q hq
    cases draw with
    | false =>
      simp only [runC] at h
      rw [T.leaf_bind, Option.bind_eq_some_iff] at h
      obtain ⟨s1, h1, h2⟩ := h
      simp only [T.leaf, Option.some.injEq] at h2
      subst h2
      exact wp_region_list (runOps_sound gc h1 ht hi hp hf fun β' a' w' e1 e0 e00 e2 e3 e4 => hq β' a' w' e1 e0 (by rw [Array.length_toList] at e00; rw [e4.2.1]; exact e00) (e2.next _) e3 e4)
    | true =>
      simp only [runC] at h
      rw [T.leaf_bind, Option.bind_eq_some_iff] at h
      obtain ⟨s1, h1, h2⟩ := h
      simp only [T.leaf, Option.some.injEq] at h2
      subst h2
      exact gd id ops s s1 h1 W0 M β a w ht hi hp hf Q fun β' a' w' e1 e0 e00 e2 e3 e4 => hq β' a' w' e1 e0 (by rw [e4.2.1]; exact e00) (e2.next _) e3 e4
  | seq x y ihx ihy =>
    intro s r h β a w ht hi hp hf Q hq
    simp only [runC] at h
    rw [T.leaf_bind, Option.bind_eq_some_iff] at h
    obtain ⟨⟨e, s1⟩, h1, h2⟩ := h
    refine wp_seq (ihx h1 ht hi hp hf _ fun β' a' w' e1 e0 e00 e2 e3 e4 => ?_)
    cases e with
    | normal => exact ihy h2 e2 e3 (by rw [e4.2.1]; exact hp) e00 Q fun β2 a2 w2 g1 g0 g00 g2 g3 g4 => hq β2 a2 w2 (e1.trans g1) (e0.trans (by rw [← e4.2.1]; exact g0)) g00 g2 g3 (e4.trans g4)
    | exit id =>
      simp only [T.leaf, Option.some.injEq] at h2
      subst h2
      exact hq β' a' w' e1 e0 e00 e2 e3 e4
    | ret =>
      simp only [T.leaf, Option.some.injEq] at h2
      subst h2
      exact hq β' a' w' e1 e0 e00 e2 e3 e4
  | cond c x y ihx ihy =>
    intro s r h β a w ht hi hp hf Q hq
    simp only [runC] at h
    split at h
    · rename_i t hc
      have h1 := ev_sound ht hi hc
      simp only [AVR] at h1
      rcases ite_leaf h with ⟨rfl, h⟩ | ⟨rfl, h⟩
      · exact wp_cond_true h1 (ihx h ht hi hp hf Q hq)
      · exact wp_cond_false h1 (ihy h ht hi hp hf Q hq)
    · cases h
  | block id c ih =>
    intro s r h β a w ht hi hp hf Q hq
    simp only [runC] at h
    rw [T.leaf_bind, Option.bind_eq_some_iff] at h
    obtain ⟨⟨e, s1⟩, h1, h2⟩ := h
    refine wp_block (ih h1 ht hi hp hf _ fun β' a' w' e1 e0 e00 e2 e3 e4 => ?_)
    cases e with
    | normal =>
      simp only [T.leaf, Option.some.injEq] at h2
      subst h2
      exact hq β' a' w' e1 e0 e00 e2 e3 e4
    | exit i =>
      simp only [leaf_cond] at h2
      simp only [Ex.toExit, Exit.inBlock]
      cases hb : Nat.beq i id with
      | true =>
        simp only [hb, cond_true, T.leaf, Option.some.injEq] at h2
        subst h2
        rw [if_pos (Nat.eq_of_beq_eq_true hb)]
        exact hq β' a' w' e1 e0 e00 e2 e3 e4
      | false =>
        simp only [hb, cond_false, T.leaf, Option.some.injEq] at h2
        subst h2
        rw [if_neg (Nat.ne_of_beq_eq_false hb)]
        exact hq β' a' w' e1 e0 e00 e2 e3 e4
    | ret =>
      simp only [T.leaf, Option.some.injEq] at h2
      subst h2
      exact hq β' a' w' e1 e0 e00 e2 e3 e4
  | loop c ih =>
    intro s r h β a w ht hi hp hf Q hq
    simp only [runC] at h
    exact wp_loop_rounds lf (iter_sound (fun h _ _ _ ht hi hp hf Q hq => ih h ht hi hp hf Q hq) h ht hi hp hf hq)
  | rangeFunc f ps x y _ _ =>
    intro s r h
    simp [runC, T.leaf] at h
  | exit id =>
    intro s r h β a w ht hi hp hf Q hq
    simp only [runC, T.leaf, Option.some.injEq] at h
    subst h
    exact wp_exit (hq β a w (Ext.refl _) (Loc.refl _ _) hf ht hi (Same.refl _))
  | scope c ih =>
    intro s r h β a w ht hi hp hf Q hq
    simp only [runC] at h
    refine wp_scope_straight (ih h ht hi hp hf _ fun β' a' w' e1 e0 e00 e2 e3 e4 => ?_)
    have := hq β' a' w' e1 e0 e00 e2 e3 e4
    cases hr : r.1 <;> simp only [hr, Ex.toExit, Exit.noGoto] at this ⊢ <;> exact this
  | goto l =>
    intro s r h
    simp [runC, T.leaf] at h
  | ret =>
    intro s r h β a w ht hi hp hf Q hq
    simp only [runC, T.leaf, Option.some.injEq] at h
    subst h
    exact wp_ret (hq β a w (Ext.refl _) (Loc.refl _ _) hf ht hi (Same.refl _))
  | refuse why =>
    intro s r h
    simp [runC, T.leaf] at h

theorem asAddr_ptr (p : Addr) : asAddr (.pointer (some p)) = (Pure.pure p : Sem Addr) := rfl

def resVal (tmps : Array Value) : ResultVar → Sem Value
  | .tmp t => Pure.pure (tmps.getD t undef)
  | .cell x t => asAddr (tmps.getD x undef) >>= fun p => loadVar t p

theorem results_eq (fn : Func) (tmps : Array Value) : results fn tmps = (fn.results.mapM (resVal tmps) >>= fun vs => Pure.pure (if h : vs.size = 1 then vs[0] else .tuple vs)) := by
  unfold results
  congr 1

theorem resA_run (hi : HI W0 M β s.rw s.ro w) (ht : TI β s a) : ∀ {l : List ResultVar} {vs : List AV}, resA P s l = some vs →
    ∃ xs : List Value, (l.mapM (resVal a.tmps)).run P w = .ok xs w ∧ AVRs β vs xs
  | [], vs, h => by
    simp only [resA, Option.some.injEq] at h
    subst h
    exact ⟨[], by simp, by simp [AVRs]⟩
  | .tmp t :: l, vs, h => by
    simp only [resA] at h
    split at h
    · rename_i x l' h1 h2
      simp only [Option.some.injEq] at h
      subst h
      obtain ⟨xs, e1, e2⟩ := resA_run hi ht h2
      obtain ⟨u, hu1, hu2⟩ := ht.tm t x h1
      refine ⟨u :: xs, ?_, by simp only [AVRs]; exact ⟨hu2, e2⟩⟩
      simp only [List.mapM_cons, Sem.run_bind, resVal, Sem.run_pure, Result.andThen_ok, Array.getD_eq_getD_getElem?, hu1, Option.getD_some, e1]
    · cases h
  | .cell x t :: l, vs, h => by
    simp only [resA] at h
    split at h
    · rename_i i off h1
      split at h
      · rename_i cs h2
        split at h
        · rename_i y l' h3 h4
          simp only [Option.some.injEq] at h
          subst h
          obtain ⟨xs, e1, e2⟩ := resA_run hi ht h4
          obtain ⟨u, hu1, hu2⟩ := ht.tm x _ h1
          simp only [AVR] at hu2
          obtain ⟨q, hq, rfl⟩ := hu2
          obtain ⟨q', arr, ty, hq', hh, hs, hpre⟩ := hi.at_ i cs h2
          rw [hq] at hq'; cases hq'
          obtain ⟨z, hz1, hz2⟩ := partOf_load (P := P) h3 hpre hh
          refine ⟨z :: xs, ?_, by simp only [AVRs]; exact ⟨hz2, e2⟩⟩
          simp only [List.mapM_cons, Sem.run_bind, resVal, Sem.run_pure, Result.andThen_ok, Array.getD_eq_getD_getElem?, hu1, Option.getD_some, asAddr_ptr, hz1, e1]
        · cases h
      · cases h
    · cases h

theorem number_get : ∀ (l : List AV) (k t : Nat) (x : AV), lk (number l k) t = some x → k ≤ t ∧ l[t - k]? = some x
  | [], _, _, _, h => by simp [number, lk] at h
  | y :: l, k, t, x, h => by
    simp only [number] at h
    rw [lk_cons] at h
    by_cases e : k = t
    · subst e
      simp only [if_true] at h
      exact ⟨Nat.le_refl _, by simpa using h⟩
    · rw [if_neg e] at h
      obtain ⟨h1, h2⟩ := number_get l (k + 1) t x h
      refine ⟨by omega, ?_⟩
      have : t - k = (t - (k + 1)) + 1 := by omega
      rw [this, List.getElem?_cons_succ]
      exact h2

/-- No function here is the runtime's NumGoroutine. -/
def NoNum (P : Program) : Prop := ∀ (f : FuncId) (fn : Func), P.funcs[f]? = some fn → (fn.name == "runtime.NumGoroutine") = false

theorem callF_sound (hnn : NoNum P) {hint : Hints} {tab : FuncId → Option CallF} (htab : ∀ f g, tab f = some g → ∀ args rw ro base r, (g f args rw ro base).leaf = some r →
      ∀ (W0 : World) (M : Nat → Prop) (β : Env) (w : World) (avs : Array Value), AVRs β args avs.toList → HI W0 M β rw ro w → 1 ≤ base → (∀ j, desc base j → β j = none) →
        CallOK P f avs w fun x w' => ∃ β', Ext β β' ∧ Loc base β β' ∧ AVR β' r.1 x ∧ HI W0 M β' r.2 ro w')
    {dr : CallF → Array Oper → St → T St} (hdr : ∀ call, GoodCall P call → GoodDr P (dr call)) {lf : Nat} : ∀ d, GoodCall P (callF P hint tab dr lf d)
  | 0 => fun _ _ _ _ _ _ h => by simp [callF, T.leaf] at h
  | d + 1 => fun f args rw ro base r h W0 M β w avs hargs hi hp hf0 => by
    have ih := callF_sound hnn (hint := hint) htab hdr (lf := lf) d
    simp only [callF] at h
    split at h
    · rename_i g hg
      exact htab f g hg args rw ro base r h W0 M β w avs hargs hi hp hf0
    · split at h
      · rename_i fn hf
        split at h
        · rename_i c hb
          rw [leaf_cond] at h
          cases hle : Nat.ble args.length fn.ntmps with
          | false => simp [hle, T.leaf] at h
          | true =>
            simp only [hle, cond_true] at h
            have hle := Nat.le_of_ble_eq_true hle
            rw [T.leaf_bind, Option.bind_eq_some_iff] at h
            obtain ⟨⟨e, s1⟩, h1, h2⟩ := h
            have hlen := hargs.length
            simp only [Array.length_toList] at hlen
            refine .inl ⟨?_, ?_⟩
            · have hne := hnn f fn hf
              simp only [callFunc, Sem.run_bind, run_program, Result.andThen_ok, hf, hne, hb, Bool.false_eq_true, if_false, Option.isNone_some, Sem.run_pure]
            · refine calls_of_wp hf hb ?_
              refine runC_sound ih (hdr _ ih) h1 (β := β) (w := w) ⟨?_, rfl, ?_⟩ hi hp (fun c' _ h2 j hj => hf0 j (hj.up h2)) _ fun β' a' w' e1 e0 e00 e2 e3 e4 => ?_
              · simp; omega
              · intro t x hl
                obtain ⟨_, h3⟩ := number_get args 0 t x hl
                obtain ⟨y, hy1, hy2⟩ := hargs.pre _ _ h3
                refine ⟨y, ?_, hy2⟩
                have hy1' : avs[t]? = some y := by simpa using hy1
                have hlt := (Array.getElem?_eq_some_iff.1 hy1').1
                rw [Array.getElem?_append_left hlt]
                exact hy1'
              · have hfin : e ≠ .exit 0 ∧ ∃ vs, resA P s1 fn.results.toList = some vs ∧ (∀ i, e ≠ .exit i) ∧ ((∃ x, vs = [x] ∧ r = (x, s1.rw)) ∨ ((∀ x, vs ≠ [x]) ∧ r = (.tup vs, s1.rw))) := by
                  unfold finish at h2
                  cases e with
                  | exit i => simp [T.leaf] at h2
                  | normal =>
                    refine ⟨by simp, ?_⟩
                    simp only at h2
                    split at h2
                    · rename_i x hr
                      simp only [T.leaf, Option.some.injEq] at h2
                      exact ⟨[x], hr, by simp, .inl ⟨x, rfl, h2.symm⟩⟩
                    · rename_i vs hne hr
                      simp only [T.leaf, Option.some.injEq] at h2
                      exact ⟨vs, hr, by simp, .inr ⟨fun x hx => hne x hx, h2.symm⟩⟩
                    · simp [T.leaf] at h2
                  | ret =>
                    refine ⟨by simp, ?_⟩
                    simp only at h2
                    split at h2
                    · rename_i x hr
                      simp only [T.leaf, Option.some.injEq] at h2
                      exact ⟨[x], hr, by simp, .inl ⟨x, rfl, h2.symm⟩⟩
                    · rename_i vs hne hr
                      simp only [T.leaf, Option.some.injEq] at h2
                      exact ⟨vs, hr, by simp, .inr ⟨fun x hx => hne x hx, h2.symm⟩⟩
                    · simp [T.leaf] at h2
                obtain ⟨_, vs, hvs, hex, hr⟩ := hfin
                obtain ⟨xs, g1, g2⟩ := resA_run e3 e2 hvs
                have hm : (fn.results.mapM (resVal a'.tmps)).run P w' = .ok xs.toArray w' := by
                  rw [Array.mapM_eq_mapM_toList]
                  simp only [Sem.run_map, g1, Result.andThen_ok]
                have hres : ∃ x, (results fn a'.tmps).run P w' = .ok x w' ∧ AVR β' r.1 x ∧ r.2 = s1.rw := by
                  have hlen2 := g2.length
                  rcases hr with ⟨x, rfl, rfl⟩ | ⟨hne, rfl⟩
                  · match xs, hlen2, g2 with
                    | [y], _, g2 =>
                      simp only [AVRs, and_true] at g2
                      refine ⟨y, ?_, g2, rfl⟩
                      rw [results_eq, Sem.run_bind, hm]
                      simp
                  · refine ⟨.tuple xs.toArray, ?_, ?_, rfl⟩
                    · rw [results_eq, Sem.run_bind, hm]
                      have : ¬ xs.toArray.size = 1 := by
                        intro h1
                        simp only [List.size_toArray] at h1
                        rw [← hlen2] at h1
                        obtain ⟨x, hx⟩ := List.length_eq_one_iff.1 h1
                        exact hne x hx
                      simp only [Result.andThen_ok, this, dite_false, Sem.run_pure]
                    · simp only [AVR]
                      exact ⟨_, rfl, by simpa using g2⟩
                obtain ⟨x, k1, k2, k3⟩ := hres
                have hdone : a'.defers = [] ∧ ∃ v, (results fn a'.tmps).run P w' = .ok v w' ∧ ∃ x, Ending.returned v = .returned x ∧ ∃ β', Ext β β' ∧ Loc base β β' ∧ AVR β' r.1 x ∧ HI W0 M β' r.2 ro w' :=
                  ⟨e2.df, x, k1, x, rfl, β', e1, e0, k2, by rw [k3]; have e4' : s1.ro = ro := e4.1; rw [← e4']; exact e3⟩
                cases e with
                | exit i => exact absurd rfl (hex i)
                | normal => exact hdone
                | ret => exact hdone
        · simp [T.leaf] at h
      · simp [T.leaf] at h

end
end Go.Sx

/- Regions that draw their order: evaluated in the text's order, each operation seeing only what must lie ahead of it. -/
namespace Go.Sx

structure En where
  i : Nat
  t : Tmp
  v : AV

def mask1 (ms : List (Nat × Nat)) : List Edge → Nat
  | [] => 0
  | e :: r => cond (Region.binds .any e) (2 ^ e.on ||| ((lk ms e.on).getD 0 ||| mask1 ms r)) (mask1 ms r)

/-- Which operations lie ahead of which, newest first. -/
def masks : List Oper → Nat → List (Nat × Nat) → List (Nat × Nat)
  | [], _, acc => acc
  | o :: r, i, acc => masks r (i + 1) ((i, mask1 acc o.after.toList) :: acc)

def mkOf (ms : List (Nat × Nat)) (i : Nat) : Nat := (lk ms i).getD 0

def globalFree (o : Op) : Bool := o.operands.toList.all fun
  | .global _ => false
  | _ => true

/-- 0: looks at no memory · 1: looks at it, or makes some · 2: writes. -/
def kind0 : Op → Nat
  | .move _ | .assign _ | .pick .. | .build .. | .nilCheck _ | .fieldAddr .. | .field .. | .indexAddr .. | .index .. | .extract .. | .binOp .. | .unOp .. | .convert .. | .makeFunc .. => 0
  | .call { callee := .builtin .len, .. } | .call { callee := .builtin .min, .. } | .call { callee := .builtin .max, .. } => 0
  | .alloc _ | .box .. | .buildSlice .. | .makeSlice .. | .load .. | .call { callee := .value _, .. } => 1
  | _ => 2

def kindOf (o : Op) : Nat := match kind0 o with
  | 0 => cond (globalFree o) 0 1
  | k => k

/-- Are two operations apart, or the second behind the first? -/
def pairOK (ops : Array Oper) (ms : List (Nat × Nat)) (j : Nat) (x : Oper) (i : Nat) (y : Oper) : Bool :=
  (mkOf ms i).testBit j ||
    (x.apart ops y && !(Nat.beq (kindOf x.op) 2 && !Nat.beq (kindOf y.op) 0) && !(Nat.beq (kindOf y.op) 2 && !Nat.beq (kindOf x.op) 0))

def pairsOK (ops : Array Oper) (ms : List (Nat × Nat)) (i : Nat) (y : Oper) : List Oper → Nat → Bool
  | [], _ => true
  | x :: r, j => pairOK ops ms j x i y && pairsOK ops ms i y r (j + 1)

def edgesOK (i : Nat) (y : Oper) : Bool := y.after.toList.all fun e => !Region.binds .any e || Nat.blt e.on i

def guardOK (ms : List (Nat × Nat)) (i : Nat) (y : Oper) : Bool := match y.guard with
  | none => true
  | some (j, _) => (mkOf ms i).testBit j && Nat.blt j i

def dstOK (n : Nat) (y : Oper) (done : List Oper) : Bool := match y.dst with
  | none => true
  | some t => Nat.blt t n && done.all fun x => x.dst != some t

def drOK (ops : Array Oper) (ms : List (Nat × Nat)) (n : Nat) : List Oper → List Oper → Nat → Bool
  | [], _, _ => true
  | y :: r, done, i => pairsOK ops ms i y done 0 && edgesOK i y && guardOK ms i y && dstOK n y done && drOK ops ms n r (done ++ [y]) (i + 1)

/-- What is not known of the frame when operation i is carried out. -/
def junkT (ms : List (Nat × Nat)) (i : Nat) : List Oper → Nat → AM
  | [], _ => []
  | x :: r, k => match x.dst with
    | none => junkT ms i r (k + 1)
    | some t => cond ((mkOf ms i).testBit k || (mkOf ms k).testBit i) (junkT ms i r (k + 1)) ((t, .junk) :: junkT ms i r (k + 1))

def entT (D : Nat → Bool) : List En → AM
  | [] => []
  | e :: r => cond (D e.i) ((e.t, e.v) :: entT D r) (entT D r)

def entH (D : Nat → Bool) : List (Nat × AH) → AH
  | [] => []
  | e :: r => cond (D e.1) (e.2 ++ entH D r) (entH D r)

def allFresh (h full : AH) : Bool := h.all fun e => (lk full e.1).isNone

/-- The state that operation i sees. -/
def svOf (s : St) (ops : Array Oper) (ms : List (Nat × Nat)) (i : Nat) (o : Oper) (tr : List En) (hs : List (Nat × AH)) : St :=
  let T := junkT ms i ops.toList 0 ++ (entT (fun k => (mkOf ms i).testBit k) tr ++ s.tmps)
  match kindOf o.op with
  | 0 => { s with tmps := T, rw := [], ro := [] }
  | 1 => { s with tmps := T, rw := [], ro := entH (fun k => (mkOf ms i).testBit k) hs ++ (s.rw ++ s.ro) }
  | _ => { s with tmps := T, rw := entH (fun _ => true) hs ++ s.rw }

def addT (i : Nat) (d : Option Tmp) (v : AV) (tr : List En) : List En := match d with
  | some t => ⟨i, t, v⟩ :: tr
  | none => tr

/-- One operation that is carried out. -/
def doDr (P : Program) (call : CallF) (s : St) (ops : Array Oper) (ms : List (Nat × Nat)) (i : Nat) (o : Oper) (tr : List En) (hs : List (Nat × AH)) : T Res :=
  (stepOp P call (svOf s ops ms i o tr hs) (idOf s.p (s.next + i)) o.op).bind fun y => (useHint (s.hint s.f s.p (s.next + i)) y.1).bind fun v =>
    let x : Res := (v, y.2)
    match kindOf o.op with
    | 0 => match x.2 with
      | [] => .ret x
      | _ => .fail
    | 1 => cond (allFresh x.2 (entH (fun _ => true) hs ++ (s.rw ++ s.ro))) (.ret x) .fail
    | _ => .ret x

def runDr (P : Program) (call : CallF) (s : St) (ops : Array Oper) (ms : List (Nat × Nat)) : List Oper → Nat → List En → List (Nat × AH) → T (List En × List (Nat × AH))
  | [], _, tr, hs => .ret (tr, hs)
  | o :: r, i, tr, hs =>
    match o.guard with
    | none => (doDr P call s ops ms i o tr hs).bind fun x => runDr P call s ops ms r (i + 1) (addT i o.dst x.1 tr) ((i, x.2) :: hs)
    | some (j, want) => match (ops[j]?).bind (·.dst) with
      | some g => match lk (svOf s ops ms i o tr hs).tmps g with
        | some (.val (.bool b)) =>
          .ite (b == want)
            ((doDr P call s ops ms i o (⟨j, g, .val (.bool want)⟩ :: tr) hs).bind fun x => runDr P call s ops ms r (i + 1) (addT i o.dst x.1 (⟨j, g, .val (.bool want)⟩ :: tr)) ((i, x.2) :: hs))
            (runDr P call s ops ms r (i + 1) (addT i o.dst (.val undef) (⟨j, g, .val (.bool (!want))⟩ :: tr)) ((i, []) :: hs))
        | some (.val (.tuple _)) => runDr P call s ops ms r (i + 1) (addT i o.dst (.val undef) tr) ((i, []) :: hs)
        | _ => .fail
      | none => .fail

/-- A whole region. -/
def drawn (P : Program) (call : CallF) (ops : Array Oper) (s : St) : T St :=
  let ms := masks ops.toList 0 []
  cond (drOK ops ms s.n ops.toList [] 0 && Nat.ble (s.next + ops.size) 65536)
    ((runDr P call s ops ms ops.toList 0 [] []).bind fun x => .ret { s with tmps := entT (fun _ => true) x.1 ++ s.tmps, rw := entH (fun _ => true) x.2 ++ s.rw }) .fail

/-! ### What the checks give -/

theorem mask1_congr {a b : List (Nat × Nat)} {n : Nat} (h : ∀ k, k < n → lk a k = lk b k) : ∀ {l : List Edge}, (l.all fun e => !Region.binds .any e || Nat.blt e.on n) = true → mask1 a l = mask1 b l
  | [], _ => rfl
  | e :: l, hl => by
    simp only [List.all_cons, Bool.and_eq_true, Bool.or_eq_true, Bool.not_eq_true'] at hl
    simp only [mask1, mask1_congr h hl.2]
    rcases hl.1 with h1 | h1
    · simp [h1]
    · rw [h _ (by simpa [Nat.blt_eq] using h1)]

theorem masks_old : ∀ (l : List Oper) (i : Nat) (acc : List (Nat × Nat)) (k : Nat), k < i → lk (masks l i acc) k = lk acc k
  | [], _, _, _, _ => rfl
  | o :: l, i, acc, k, h => by
    rw [masks, masks_old l (i + 1) _ k (by omega), lk_cons, if_neg (by omega)]

theorem masks_spec : ∀ (l : List Oper) (i : Nat) (acc : List (Nat × Nat)) (k : Nat) (o : Oper), l[k]? = some o → edgesOK (i + k) o = true →
    mkOf (masks l i acc) (i + k) = mask1 (masks l i acc) o.after.toList
  | [], _, _, _, _, h, _ => by simp at h
  | x :: l, i, acc, 0, o, h, he => by
    simp only [List.getElem?_cons_zero, Option.some.injEq] at h
    subst h
    simp only [mkOf, masks, Nat.add_zero]
    rw [masks_old l (i + 1) _ i (by omega), lk_cons, if_pos rfl]
    simp only [Option.getD_some]
    exact mask1_congr (n := i) (fun k hk => by rw [masks_old l (i + 1) _ k (by omega), lk_cons, if_neg (by omega)]) (by simpa [edgesOK] using he)
  | x :: l, i, acc, k + 1, o, h, he => by
    simp only [List.getElem?_cons_succ] at h
    have e : i + (k + 1) = i + 1 + k := by omega
    rw [e] at he ⊢
    exact masks_spec l (i + 1) _ k o h he

theorem mask1_bit {ms : List (Nat × Nat)} {j : Nat} : ∀ {l : List Edge}, (mask1 ms l).testBit j = true ↔ ∃ e ∈ l, Region.binds .any e = true ∧ (e.on = j ∨ (mkOf ms e.on).testBit j = true)
  | [] => by simp [mask1]
  | e :: l => by
    simp only [mask1]
    cases hb : Region.binds .any e with
    | false =>
      simp only [cond_false]
      rw [mask1_bit (l := l)]
      simp [hb]
    | true =>
      simp only [cond_true, Nat.testBit_or, Bool.or_eq_true, Nat.testBit_two_pow, decide_eq_true_eq]
      rw [mask1_bit (l := l)]
      simp [hb, mkOf, or_assoc]

theorem pairsOK_get {ops : Array Oper} {ms : List (Nat × Nat)} {i : Nat} {y : Oper} : ∀ {l : List Oper} {j0 : Nat}, pairsOK ops ms i y l j0 = true → ∀ (j : Nat) (x : Oper), l[j]? = some x → pairOK ops ms (j0 + j) x i y = true
  | [], _, _, _, _, h => by simp at h
  | x :: l, j0, h, 0, x', h' => by
    simp only [List.getElem?_cons_zero, Option.some.injEq] at h'
    subst h'
    simp only [pairsOK, Bool.and_eq_true] at h
    exact h.1
  | x :: l, j0, h, j + 1, x', h' => by
    simp only [pairsOK, Bool.and_eq_true] at h
    have := pairsOK_get h.2 j x' (by simpa using h')
    rwa [show j0 + (j + 1) = j0 + 1 + j by omega]

theorem drOK_get {ops : Array Oper} {ms : List (Nat × Nat)} {n : Nat} : ∀ {l done : List Oper} {i : Nat}, i = done.length → drOK ops ms n l done i = true → ∀ (k : Nat) (y : Oper), l[k]? = some y →
    (∀ (j : Nat) (x : Oper), j < i + k → (done ++ l)[j]? = some x → pairOK ops ms j x (i + k) y = true ∧ (∀ t, y.dst = some t → x.dst ≠ some t)) ∧ edgesOK (i + k) y = true ∧ guardOK ms (i + k) y = true ∧ (∀ t, y.dst = some t → t < n)
  | [], _, _, _, _, _, _, h => by simp at h
  | y :: l, done, i, hi, h, 0, y', h' => by
    simp only [List.getElem?_cons_zero, Option.some.injEq] at h'
    subst h'
    simp only [drOK, Bool.and_eq_true] at h
    obtain ⟨⟨⟨⟨h1, h2⟩, h3⟩, h4⟩, _⟩ := h
    refine ⟨fun j x hj hx => ?_, h2, h3, fun t ht => ?_⟩
    · rw [List.getElem?_append_left (by omega)] at hx
      refine ⟨by simpa using pairsOK_get h1 j x hx, fun t ht => ?_⟩
      simp only [dstOK, ht, Bool.and_eq_true, List.all_eq_true] at h4
      have := h4.2 x (List.mem_of_getElem? hx)
      simpa using this
    · simp only [dstOK, ht, Bool.and_eq_true] at h4
      simpa [Nat.blt_eq] using h4.1
  | y :: l, done, i, hi, h, k + 1, y', h' => by
    simp only [drOK, Bool.and_eq_true] at h
    have := drOK_get (l := l) (done := done ++ [y]) (i := i + 1) (by simp [hi]) h.2 k y' (by simpa using h')
    rw [show i + (k + 1) = i + 1 + k by omega]
    simpa using this

/-! ### Look-ups in what some of the operations have laid -/

theorem lk_entH_eq {D E : Nat → Bool} {id : Nat} : ∀ {hs : List (Nat × AH)}, (∀ k h, (k, h) ∈ hs → D k ≠ E k → lk h id = none) → lk (entH D hs) id = lk (entH E hs) id
  | [], _ => rfl
  | (k, h) :: hs, hh => by
    have ih := lk_entH_eq (D := D) (E := E) (id := id) (hs := hs) (fun k h hm => hh k h (by simp [hm]))
    simp only [entH]
    by_cases e : D k = E k
    · rw [e]
      cases E k
      · simpa using ih
      · simp [lk_append, ih]
    · have hn := hh k h (by simp) e
      cases hD : D k <;> cases hE : E k <;> simp_all [lk_append]

theorem lk_entH_some {D : Nat → Bool} {id : Nat} {x : Option (List AV)} : ∀ {hs : List (Nat × AH)}, lk (entH D hs) id = some x → ∃ k h, (k, h) ∈ hs ∧ D k = true ∧ (lk h id).isSome = true
  | [], h => by simp [entH, lk] at h
  | (k, h) :: hs, hh => by
    simp only [entH] at hh
    cases hD : D k with
    | false =>
      rw [hD] at hh
      obtain ⟨k', h', h1, h2⟩ := lk_entH_some (hs := hs) hh
      exact ⟨k', h', by simp [h1], h2⟩
    | true =>
      rw [hD] at hh
      simp only [cond_true, lk_append] at hh
      cases hl : lk h id with
      | some y => exact ⟨k, h, by simp, hD, by simp [hl]⟩
      | none =>
        rw [hl] at hh
        obtain ⟨k', h', h1, h2⟩ := lk_entH_some (hs := hs) hh
        exact ⟨k', h', by simp [h1], h2⟩

/-- Rising downwards: each number once. -/
def Dec : List (Nat × AH) → Nat → Prop
  | [], n => n = 0
  | (k, _) :: r, n => n = k + 1 ∧ Dec r k

theorem Dec.lt : ∀ {hs : List (Nat × AH)} {n : Nat}, Dec hs n → ∀ k h, (k, h) ∈ hs → k < n
  | (k, h) :: hs, n, hd, k', h', hm => by
    simp only [Dec] at hd
    rcases List.mem_cons.1 hm with e | e
    · cases e; omega
    · have := Dec.lt hd.2 k' h' e; omega
  | [], _, _, _, _, hm => by simp at hm

theorem Dec.uniq : ∀ {hs : List (Nat × AH)} {n : Nat}, Dec hs n → ∀ k h h', (k, h) ∈ hs → (k, h') ∈ hs → h = h'
  | (k0, h0) :: hs, n, hd, k, h, h', h1, h2 => by
    simp only [Dec] at hd
    rcases List.mem_cons.1 h1 with e | e <;> rcases List.mem_cons.1 h2 with e' | e'
    · cases e; cases e'; rfl
    · cases e
      have := Dec.lt hd.2 _ _ e'; omega
    · cases e'
      have := Dec.lt hd.2 _ _ e; omega
    · exact Dec.uniq hd.2 k h h' e e'
  | [], _, _, _, _, _, hm, _ => by simp at hm

/-- One operation more. -/
theorem lk_entH_add {D D' : Nat → Bool} {i : Nat} {hi : AH} {id : Nat} (hDi : D i = false) (hD'i : D' i = true) (hoth : ∀ k, k ≠ i → D' k = D k) : ∀ {hs : List (Nat × AH)} {n : Nat}, Dec hs n → (i, hi) ∈ hs →
    (∀ k h, (k, h) ∈ hs → i < k → D k = true → lk h id = none ∨ lk hi id = none) → lk (entH D' hs) id = match lk hi id with | some x => some x | none => lk (entH D hs) id
  | (k, h) :: hs, n, hd, hm, hh => by
    simp only [Dec] at hd
    simp only [entH]
    by_cases e : k = i
    · subst e
      have he : h = hi := by
        rcases List.mem_cons.1 hm with e | e
        · cases e; rfl
        · have := Dec.lt hd.2 _ _ e; omega
      subst he
      have hrest : lk (entH D' hs) id = lk (entH D hs) id := lk_entH_eq fun k' h' hm' hne => by
        have := Dec.lt hd.2 _ _ hm'
        exact absurd (hoth k' (by omega)) hne
      rw [hD'i, hDi]
      simp only [cond_true, cond_false, lk_append, hrest]
      cases lk h id <;> rfl
    · have hm' : (i, hi) ∈ hs := by
        rcases List.mem_cons.1 hm with e' | e'
        · cases e'; exact absurd rfl e
        · exact e'
      have hlt := Dec.lt hd.2 _ _ hm'
      have ih := lk_entH_add hDi hD'i hoth hd.2 hm' (fun k h hmm => hh k h (by simp [hmm]))
      rw [hoth k e]
      cases hDk : D k with
      | false => simpa using ih
      | true =>
        simp only [cond_true, lk_append, ih]
        rcases hh k h (by simp) hlt hDk with h1 | h1
        · rw [h1]
        · rw [h1]
  | [], _, _, hm, _ => by simp at hm

theorem lk_entH_add' {D D' : Nat → Bool} {i : Nat} {hi : AH} {id : Nat} (hDi : D i = false) (hD'i : D' i = true) (hoth : ∀ k, k ≠ i → D' k = D k) {hs : List (Nat × AH)} {n : Nat} (hd : Dec hs n) (hm : (i, hi) ∈ hs)
    (hh : ∀ k h, (k, h) ∈ hs → i < k → D k = true → lk h id = none ∨ lk hi id = none) : lk (entH D' hs) id = lk (hi ++ entH D hs) id := by
  rw [lk_entH_add hDi hD'i hoth hd hm hh, lk_append]
  cases lk hi id <;> rfl

theorem allFresh_get {h full : AH} (hf : allFresh h full = true) {id : Nat} {x : Option (List AV)} (hl : lk h id = some x) : lk full id = none := by
  unfold allFresh at hf
  rw [List.all_eq_true] at hf
  have : ∃ y, (id, y) ∈ h := by
    clear hf
    induction h with
    | nil => simp [lk] at hl
    | cons e r ih =>
      obtain ⟨k, y⟩ := e
      rw [lk_cons] at hl
      by_cases e : k = id
      · exact ⟨y, by simp [e]⟩
      · rw [if_neg e] at hl
        obtain ⟨z, hz⟩ := ih hl
        exact ⟨z, by simp [hz]⟩
  obtain ⟨y, hy⟩ := this
  simpa using hf (id, y) hy

end Go.Sx

/- Regions that draw their order: the theorem. -/
namespace Go.Sx

/-! ### Parts of the blocks -/

theorem HI.still {W0 : World} {M : Nat → Prop} {β : Env} {rw ro ro' : AH} {w : World} (h : HI W0 M β rw ro w)
    (hs : ∀ id cs, lk ro' id = some (some cs) → lk (rw ++ ro) id = some (some cs)) : HI w (fun _ => False) β [] ro' w :=
  { os := rfl, tape := rfl, out := rfl, size := Nat.le_refl _, fr := fun _ _ _ => rfl, at_ := fun id cs hl => h.at_ id cs (hs id cs (by simpa using hl))
    inj := fun i j r q ci cj hi hj => h.inj i j r q ci cj (hs _ _ (by simpa using hi)) (hs _ _ (by simpa using hj)), own := fun id cs r hl => by simp [lk] at hl, glob := h.glob }

theorem HI.merge {W0 : World} {M : Nat → Prop} {β β' : Env} {rw ro ro' h : AH} {w w' : World} (a : HI W0 M β rw ro w) (b : HI w (fun _ => False) β' h ro' w') (he : Ext β β') : HI W0 M β' (h ++ rw) ro w' := by
  have old : ∀ i c r, lk (rw ++ ro) i = some (some c) → β' i = some r → β i = some r ∧ r.blk < w.heap.size := fun i c r hl hb => by
    obtain ⟨q, arr, ty, hq, hh, _⟩ := a.at_ i c hl
    have := he _ _ hq
    rw [hb] at this
    cases this
    exact ⟨hq, (Array.getElem?_eq_some_iff.1 hh).1⟩
  have new : ∀ i c r, lk h i = some (some c) → β' i = some r → w.heap.size ≤ r.blk := fun i c r hl hb => (b.own i c r hl hb).resolve_left id
  have part : ∀ i c, lk (h ++ rw ++ ro) i = some (some c) → lk h i = some (some c) ∨ (lk h i = none ∧ lk (rw ++ ro) i = some (some c)) := fun i c hl => by
    rw [List.append_assoc, lk_append] at hl
    cases e : lk h i with
    | some x => rw [e] at hl; exact .inl hl
    | none => rw [e] at hl; exact .inr ⟨rfl, hl⟩
  refine { os := b.os.trans a.os, tape := b.tape.trans a.tape, out := b.out.trans a.out, size := Nat.le_trans a.size b.size, fr := fun k hk hM => ?_, at_ := fun i c hl => ?_, inj := ?_, own := fun i c r hl hb => ?_, glob := b.glob }
  · rw [b.fr k (Nat.lt_of_lt_of_le hk a.size) id]
    exact a.fr k hk hM
  · rcases part i c hl with h1 | ⟨_, h1⟩
    · exact b.at_ i c (lk_append_some h1)
    · obtain ⟨q, arr, ty, hq, hh, hs, hp⟩ := a.at_ i c h1
      have hlt := (Array.getElem?_eq_some_iff.1 hh).1
      exact ⟨q, arr, ty, he _ _ hq, by rw [b.fr _ hlt id]; exact hh, hs, hp.mono he⟩
  · intro i j r q ci cj hi hj hbi hbj hrq
    rcases part i ci hi with h1 | ⟨_, h1⟩ <;> rcases part j cj hj with h2 | ⟨_, h2⟩
    · exact b.inj i j r q ci cj (lk_append_some h1) (lk_append_some h2) hbi hbj hrq
    · have e1 := new i ci r h1 hbi
      have e2 := (old j cj q h2 hbj).2
      omega
    · have e1 := new j cj q h2 hbj
      have e2 := (old i ci r h1 hbi).2
      omega
    · exact a.inj i j r q ci cj h1 h2 (old i ci r h1 hbi).1 (old j cj q h2 hbj).1 hrq
  · rw [lk_append] at hl
    cases e : lk h i with
    | some x =>
      rw [e] at hl
      simp only at hl
      have := new i c r (by rw [e, hl]) hb
      exact .inr (Nat.le_trans a.size this)
    | none =>
      rw [e] at hl
      have h1 := old i c r (lk_append_some hl) hb
      exact a.own i c r hl h1.1

/-! ### The checks, and the plan -/

structure Chk (ops : Array Oper) (ms : List (Nat × Nat)) (n : Nat) : Prop where
  pair : ∀ (i : Nat) (y : Oper) (j : Nat) (x : Oper), ops[i]? = some y → ops[j]? = some x → j < i → pairOK ops ms j x i y = true
  uniq : ∀ (i : Nat) (y : Oper) (j : Nat) (x : Oper) (t : Tmp), ops[i]? = some y → ops[j]? = some x → i ≠ j → y.dst = some t → x.dst ≠ some t
  mask : ∀ (i : Nat) (y : Oper), ops[i]? = some y → ∀ j, (mkOf ms i).testBit j = true ↔ ∃ e ∈ y.after.toList, Region.binds .any e = true ∧ (e.on = j ∨ (mkOf ms e.on).testBit j = true)
  edge : ∀ (i : Nat) (y : Oper) (e : Edge), ops[i]? = some y → e ∈ y.after.toList → Region.binds .any e = true → e.on < i
  guard : ∀ (i : Nat) (y : Oper) (j : Nat) (w : Bool), ops[i]? = some y → y.guard = some (j, w) → (mkOf ms i).testBit j = true ∧ j < i
  dst : ∀ (i : Nat) (y : Oper) (t : Tmp), ops[i]? = some y → y.dst = some t → t < n

theorem Chk.of {ops : Array Oper} {n : Nat} (h : drOK ops (masks ops.toList 0 []) n ops.toList [] 0 = true) : Chk ops (masks ops.toList 0 []) n := by
  have g := fun k y (hk : ops[k]? = some y) => drOK_get (done := []) (i := 0) rfl h k y (by simpa using hk)
  simp only [Nat.zero_add, List.nil_append] at g
  refine { pair := fun i y j x hi hj hlt => ((g i y hi).1 j x hlt (by simpa using hj)).1, uniq := fun i y j x t hi hj hne ht => ?_, mask := fun i y hi j => ?_, edge := fun i y e hi he hb => ?_, guard := fun i y j w hi hg => ?_, dst := fun i y t hi ht => (g i y hi).2.2.2 t ht }
  · rcases Nat.lt_or_gt_of_ne hne with hlt | hlt
    · intro hx
      exact ((g j x hj).1 i y hlt (by simpa using hi)).2 t hx ht
    · exact ((g i y hi).1 j x hlt (by simpa using hj)).2 t ht
  · have := masks_spec ops.toList 0 [] i y (by simpa using hi) (by simpa using (g i y hi).2.1)
    rw [Nat.zero_add] at this
    rw [this]
    exact mask1_bit
  · have := (g i y hi).2.1
    unfold edgesOK at this
    rw [List.all_eq_true] at this
    have := this e he
    simpa [hb, Nat.blt_eq] using this
  · have := (g i y hi).2.2.1
    simp only [guardOK, hg, Bool.and_eq_true] at this
    exact ⟨this.1, by simpa [Nat.blt_eq] using this.2⟩

section
variable {ops : Array Oper} {ms : List (Nat × Nat)} {n : Nat}

theorem get_of_lt {i : Nat} (h : i < ops.size) : ∃ y, ops[i]? = some y := ⟨ops[i], by simp [h]⟩
theorem lt_of_get {i : Nat} {y : Oper} (h : ops[i]? = some y) : i < ops.size := (Array.getElem?_eq_some_iff.1 h).1

theorem Chk.lt (c : Chk ops ms n) : ∀ (i : Nat) (y : Oper), ops[i]? = some y → ∀ j, (mkOf ms i).testBit j = true → j < i := by
  intro i
  induction i using Nat.strongRecOn with
  | _ i ih =>
    intro y hi j hj
    obtain ⟨e, he, hb, h | h⟩ := (c.mask i y hi j).1 hj
    · have := c.edge i y e hi he hb; omega
    · have h1 := c.edge i y e hi he hb
      obtain ⟨z, hz⟩ := get_of_lt (ops := ops) (i := e.on) (by have := lt_of_get hi; omega)
      have := ih e.on h1 z hz j h
      omega

theorem Chk.trans (c : Chk ops ms n) : ∀ (i : Nat) (y : Oper), ops[i]? = some y → ∀ k, (mkOf ms i).testBit k = true → ∀ j, (mkOf ms k).testBit j = true → (mkOf ms i).testBit j = true := by
  intro i
  induction i using Nat.strongRecOn with
  | _ i ih =>
    intro y hi k hk j hj
    obtain ⟨e, he, hb, h | h⟩ := (c.mask i y hi k).1 hk
    · subst h
      exact (c.mask i y hi j).2 ⟨e, he, hb, .inr hj⟩
    · have h1 := c.edge i y e hi he hb
      obtain ⟨z, hz⟩ := get_of_lt (ops := ops) (i := e.on) (by have := lt_of_get hi; omega)
      exact (c.mask i y hi j).2 ⟨e, he, hb, .inr (ih e.on h1 z hz k h j hj)⟩

/-- The order of two operations of which one writes, and the other looks at memory. -/
theorem Chk.order (c : Chk ops ms n) {i j : Nat} {y x : Oper} (hi : ops[i]? = some y) (hj : ops[j]? = some x) (hlt : j < i)
    (hk : (kindOf x.op = 2 ∧ kindOf y.op ≠ 0) ∨ (kindOf y.op = 2 ∧ kindOf x.op ≠ 0)) : (mkOf ms i).testBit j = true := by
  have h := c.pair i y j x hi hj hlt
  unfold pairOK at h
  rw [Bool.or_eq_true] at h
  rcases h with h | h
  · exact h
  · exfalso
    simp only [Bool.and_eq_true, Bool.not_eq_true', Bool.and_eq_false_iff, Bool.not_eq_false', Nat.beq_eq] at h
    obtain ⟨⟨_, h1⟩, h2⟩ := h
    rcases hk with ⟨e1, e2⟩ | ⟨e1, e2⟩
    · rcases h1 with h1 | h1
      · simp [e1] at h1
      · exact e2 h1
    · rcases h2 with h2 | h2
      · simp [e1] at h2
      · exact e2 h2

/-- What is known of a run up to operation i. -/
structure PI (s : St) (ops : Array Oper) (i : Nat) (tr : List En) (hs : List (Nat × AH)) : Prop where
  lt : ∀ e ∈ tr, e.i < i
  all : ∀ (k : Nat) (x : Oper) (t : Tmp), k < i → ops[k]? = some x → x.dst = some t → ∃ u, ⟨k, t, u⟩ ∈ tr
  of : ∀ e ∈ tr, ∃ x, ops[e.i]? = some x ∧ x.dst = some e.t
  one : ∀ e ∈ tr, ∀ e' ∈ tr, e.i = e'.i → e.v = e'.v
  dec : Dec hs i
  full : ∀ k, k < i → ∃ h, (k, h) ∈ hs
  fresh : ∀ (k : Nat) (h : AH) (x : Oper), (k, h) ∈ hs → ops[k]? = some x → kindOf x.op = 1 → ∀ id y, lk h id = some y → lk (s.rw ++ s.ro) id = none ∧ ∀ k' h', (k', h') ∈ hs → k' < k → lk h' id = none
  pure : ∀ (k : Nat) (h : AH) (x : Oper), (k, h) ∈ hs → ops[k]? = some x → kindOf x.op = 0 → h = []

theorem junkT_some {i : Nat} : ∀ {l : List Oper} {k0 : Nat} {t : Tmp} {v : AV}, lk (junkT ms i l k0) t = some v → v = .junk ∧ ∃ (k : Nat) (x : Oper), l[k]? = some x ∧ x.dst = some t
  | [], _, _, _, h => by simp [junkT, lk] at h
  | x :: l, k0, t, v, h => by
    simp only [junkT] at h
    have rec' : lk (junkT ms i l (k0 + 1)) t = some v → v = .junk ∧ ∃ (k : Nat) (y : Oper), (x :: l)[k]? = some y ∧ y.dst = some t := fun h =>
      let ⟨h1, k, y, h2, h3⟩ := junkT_some h
      ⟨h1, k + 1, y, by simpa using h2, h3⟩
    split at h
    · exact rec' h
    · rename_i u hu
      cases hb : (mkOf ms i).testBit k0 || (mkOf ms k0).testBit i with
      | true => rw [hb] at h; exact rec' h
      | false =>
        rw [hb] at h
        simp only [cond_false] at h
        rw [lk_cons] at h
        by_cases e : u = t
        · subst e
          simp only [if_true, Option.some.injEq] at h
          exact ⟨h.symm, 0, x, by simp, hu⟩
        · rw [if_neg e] at h
          exact rec' h

theorem junkT_none {i : Nat} : ∀ {l : List Oper} {k0 : Nat} {t : Tmp}, lk (junkT ms i l k0) t = none → ∀ (k : Nat) (x : Oper), l[k]? = some x → x.dst = some t → (mkOf ms i).testBit (k0 + k) = true ∨ (mkOf ms (k0 + k)).testBit i = true
  | [], _, _, _, _, _, h, _ => by simp at h
  | x :: l, k0, t, h, k, y, hk, hy => by
    simp only [junkT] at h
    have rec' : ∀ {k'}, k = k' + 1 → lk (junkT ms i l (k0 + 1)) t = none → (mkOf ms i).testBit (k0 + k) = true ∨ (mkOf ms (k0 + k)).testBit i = true := fun {k'} e h => by
      subst e
      have := junkT_none h k' y (by simpa using hk) hy
      rwa [show k0 + 1 + k' = k0 + (k' + 1) by omega] at this
    cases k with
    | zero =>
      simp only [List.getElem?_cons_zero, Option.some.injEq] at hk
      subst hk
      rw [hy] at h
      simp only at h
      cases hb : (mkOf ms i).testBit k0 || (mkOf ms k0).testBit i with
      | true => simpa using hb
      | false =>
        rw [hb] at h
        simp [lk_cons] at h
    | succ k' =>
      split at h
      · exact rec' rfl h
      · rename_i u hu
        cases hb : (mkOf ms i).testBit k0 || (mkOf ms k0).testBit i with
        | true => rw [hb] at h; exact rec' rfl h
        | false =>
          rw [hb] at h
          simp only [cond_false, lk_cons] at h
          by_cases e : u = t
          · simp [e] at h
          · rw [if_neg e] at h; exact rec' rfl h

theorem entT_some {D : Nat → Bool} {t : Tmp} {v : AV} : ∀ {tr : List En}, lk (entT D tr) t = some v → ∃ e ∈ tr, D e.i = true ∧ e.t = t ∧ e.v = v
  | [], h => by simp [entT, lk] at h
  | e :: tr, h => by
    simp only [entT] at h
    cases hD : D e.i with
    | false =>
      rw [hD] at h
      obtain ⟨e', h1, h2⟩ := entT_some (tr := tr) h
      exact ⟨e', by simp [h1], h2⟩
    | true =>
      rw [hD] at h
      simp only [cond_true, lk_cons] at h
      by_cases ht : e.t = t
      · rw [if_pos ht] at h
        exact ⟨e, by simp, hD, ht, by simpa using h⟩
      · rw [if_neg ht] at h
        obtain ⟨e', h1, h2⟩ := entT_some (tr := tr) h
        exact ⟨e', by simp [h1], h2⟩

theorem entT_none {D : Nat → Bool} {t : Tmp} : ∀ {tr : List En}, lk (entT D tr) t = none → ∀ e ∈ tr, D e.i = true → e.t ≠ t
  | [], _, e, he, _ => by simp at he
  | e :: tr, h, e', he, hD => by
    simp only [entT] at h
    rcases List.mem_cons.1 he with rfl | he
    · rw [hD] at h
      simp only [cond_true, lk_cons] at h
      intro ht
      simp [ht] at h
    · cases hDe : D e.i with
      | false => rw [hDe] at h; exact entT_none h e' he hD
      | true =>
        rw [hDe] at h
        simp only [cond_true, lk_cons] at h
        by_cases ht : e.t = t
        · simp [ht] at h
        · rw [if_neg ht] at h; exact entT_none h e' he hD

theorem PI.start (s : St) (ops : Array Oper) : PI s ops 0 [] [] :=
  { lt := by simp, all := fun k x t h => by omega, of := by simp, one := by simp, dec := rfl, full := fun k h => by omega, fresh := by simp, pure := by simp }

theorem mem_addT {i : Nat} {d : Option Tmp} {v : AV} {tr : List En} {e : En} : e ∈ addT i d v tr ↔ (∃ t, d = some t ∧ e = ⟨i, t, v⟩) ∨ e ∈ tr := by
  cases d <;> simp [addT]

/-- One operation more. -/
theorem PI.add {s : St} {i : Nat} {tr : List En} {hs : List (Nat × AH)} (h : PI s ops i tr hs) {o : Oper} (ho : ops[i]? = some o) {v : AV} {g : AH}
    (hf : kindOf o.op = 1 → allFresh g (entH (fun _ => true) hs ++ (s.rw ++ s.ro)) = true) (hp : kindOf o.op = 0 → g = []) : PI s ops (i + 1) (addT i o.dst v tr) ((i, g) :: hs) where
  lt e he := by
    rcases mem_addT.1 he with ⟨t, _, rfl⟩ | he
    · simp
    · have := h.lt e he; omega
  all k x t hk hx ht := by
    by_cases e : k = i
    · subst e
      rw [ho] at hx
      cases hx
      exact ⟨v, mem_addT.2 (.inl ⟨t, ht, rfl⟩)⟩
    · obtain ⟨u, hu⟩ := h.all k x t (by omega) hx ht
      exact ⟨u, mem_addT.2 (.inr hu)⟩
  of e he := by
    rcases mem_addT.1 he with ⟨t, ht, rfl⟩ | he
    · exact ⟨o, ho, ht⟩
    · exact h.of e he
  one e he e' he' hee := by
    rcases mem_addT.1 he with ⟨t, _, rfl⟩ | he1 <;> rcases mem_addT.1 he' with ⟨t', _, rfl⟩ | he2
    · rfl
    · have := h.lt e' he2; simp at hee; omega
    · have := h.lt e he1; simp at hee; omega
    · exact h.one e he1 e' he2 hee
  dec := ⟨rfl, h.dec⟩
  full k hk := by
    by_cases e : k = i
    · exact ⟨g, by simp [e]⟩
    · obtain ⟨g', hg⟩ := h.full k (by omega)
      exact ⟨g', by simp [hg]⟩
  fresh k g' x hm hx hk id y hl := by
    rcases List.mem_cons.1 hm with e | e
    · cases e
      rw [ho] at hx
      cases hx
      have hn := allFresh_get (hf hk) hl
      rw [lk_append] at hn
      cases e1 : lk (entH (fun _ => true) hs) id with
      | some z => rw [e1] at hn; cases hn
      | none =>
        rw [e1] at hn
        refine ⟨hn, fun k' h' hm' hlt => ?_⟩
        rcases List.mem_cons.1 hm' with e | e
        · cases e; omega
        · cases e2 : lk h' id with
          | none => rfl
          | some z =>
            exfalso
            have : ∀ {l : List (Nat × AH)}, (k', h') ∈ l → lk (entH (fun _ => true) l) id ≠ none := by
              intro l
              induction l with
              | nil => simp
              | cons p l ih =>
                intro hmm
                simp only [entH, cond_true, lk_append]
                rcases List.mem_cons.1 hmm with rfl | hmm
                · simp [e2]
                · cases lk p.2 id with
                  | some u => simp
                  | none => exact ih hmm
            exact this e e1
    · have hlt := Dec.lt h.dec _ _ e
      obtain ⟨h1, h2⟩ := h.fresh k g' x e hx hk id y hl
      refine ⟨h1, fun k' h' hm' hlt' => ?_⟩
      rcases List.mem_cons.1 hm' with e' | e'
      · cases e'; omega
      · exact h2 k' h' e' hlt'
  pure k g' x hm hx hk := by
    rcases List.mem_cons.1 hm with e | e
    · cases e
      rw [ho] at hx
      cases hx
      exact hp hk
    · exact h.pure k g' x e hx hk

/-- A value that is known better. -/
theorem PI.refine {s : St} {i : Nat} {tr : List En} {hs : List (Nat × AH)} (h : PI s ops i tr hs) {e : En} (he : e.i < i) (hx : ∃ x, ops[e.i]? = some x ∧ x.dst = some e.t) (hv : ∀ e' ∈ tr, e'.i = e.i → e'.v = e.v) : PI s ops i (e :: tr) hs :=
  { lt := fun f hf => by
      rcases List.mem_cons.1 hf with rfl | hf
      · exact he
      · exact h.lt f hf
    all := fun k x t hk hx ht => let ⟨u, hu⟩ := h.all k x t hk hx ht; ⟨u, by simp [hu]⟩
    of := fun f hf => by
      rcases List.mem_cons.1 hf with rfl | hf
      · exact hx
      · exact h.of f hf
    one := fun f hf f' hf' hff => by
      rcases List.mem_cons.1 hf with rfl | hf1 <;> rcases List.mem_cons.1 hf' with rfl | hf2
      · rfl
      · exact (hv f' hf2 hff.symm).symm
      · exact hv f hf1 hff
      · exact h.one f hf1 f' hf2 hff
    dec := h.dec, full := h.full, fresh := h.fresh, pure := h.pure }

end
end Go.Sx

/- Regions that draw their order: any order leads to what the text's order leads to. -/
namespace Go.Sx

section
variable {P : Program} {W0 : World} {M : Nat → Prop} {ops : Array Oper} {ms : List (Nat × Nat)}

/-- What is known of operation i in the whole run. -/
structure StepOK (P : Program) (call : CallF) (s : St) (ops : Array Oper) (ms : List (Nat × Nat)) (F : List En) (G : List (Nat × AH)) (i : Nat) (o : Oper) : Prop where
  ex : ∃ (tr0 tr : List En) (hs : List (Nat × AH)) (v : AV) (h : AH), PI s ops i tr0 hs ∧ PI s ops i tr hs ∧ (∀ e ∈ tr0, e ∈ F) ∧ (∀ e ∈ tr, e ∈ F) ∧ (∀ p ∈ hs, p ∈ G) ∧ (i, h) ∈ G ∧
    (∀ t, o.dst = some t → (⟨i, t, v⟩ : En) ∈ F) ∧
    ((o.guard = none ∧ (doDr P call s ops ms i o tr hs).leaf = some (v, h)) ∨
     (∃ j want g b, o.guard = some (j, want) ∧ (ops[j]?).bind (·.dst) = some g ∧ lk (svOf s ops ms i o tr0 hs).tmps g = some (.val (.bool b)) ∧
        ((b = want ∧ (doDr P call s ops ms i o tr hs).leaf = some (v, h)) ∨ (b ≠ want ∧ v = .val undef ∧ h = []))) ∨
     (∃ j want g vs, o.guard = some (j, want) ∧ (ops[j]?).bind (·.dst) = some g ∧ lk (svOf s ops ms i o tr0 hs).tmps g = some (.val (.tuple vs)) ∧ v = .val undef ∧ h = []))

theorem doDr_leaf {call : CallF} {s : St} {i : Nat} {o : Oper} {tr : List En} {hs : List (Nat × AH)} {r : Res} (h : (doDr P call s ops ms i o tr hs).leaf = some r) :
    (∃ u h, (stepOp P call (svOf s ops ms i o tr hs) (idOf s.p (s.next + i)) o.op).leaf = some (u, r.2) ∧ (useHint h u).leaf = some r.1) ∧ (kindOf o.op = 0 → r.2 = []) ∧ (kindOf o.op = 1 → allFresh r.2 (entH (fun _ => true) hs ++ (s.rw ++ s.ro)) = true) := by
  unfold doDr at h
  rw [T.leaf_bind, Option.bind_eq_some_iff] at h
  obtain ⟨x, h1, h2⟩ := h
  rw [T.leaf_bind, Option.bind_eq_some_iff] at h2
  obtain ⟨v, h0, h2⟩ := h2
  simp only at h2
  split at h2
  · rename_i hk
    split at h2
    · rename_i hx
      simp only [T.leaf, Option.some.injEq] at h2
      subst h2
      exact ⟨⟨x.1, _, h1, h0⟩, fun _ => hx, fun hk' => by omega⟩
    · simp [T.leaf] at h2
  · rename_i hk
    rw [leaf_cond] at h2
    cases hf : allFresh x.2 (entH (fun _ => true) hs ++ (s.rw ++ s.ro)) with
    | false => simp [hf, T.leaf] at h2
    | true =>
      simp only [hf, cond_true, T.leaf, Option.some.injEq] at h2
      subst h2
      exact ⟨⟨x.1, _, h1, h0⟩, fun hk' => by omega, fun _ => hf⟩
  · rename_i hk0 hk1
    simp only [T.leaf, Option.some.injEq] at h2
    subst h2
    exact ⟨⟨x.1, _, h1, h0⟩, fun hk' => absurd hk' hk0, fun hk' => absurd hk' hk1⟩

/-- A guard's value is the value that its operation gave. -/
theorem guard_val {s : St} {n i j : Nat} (c : Chk ops ms n) {o x : Oper} (ho : ops[i]? = some o) (hx : ops[j]? = some x) {g : Tmp} (hg : x.dst = some g) (hb : (mkOf ms i).testBit j = true) {tr : List En} {hs : List (Nat × AH)}
    (hp : PI s ops i tr hs) {u : AV} (hl : lk (svOf s ops ms i o tr hs).tmps g = some u) : ∀ e ∈ tr, e.i = j → e.v = u := by
  have hT : (svOf s ops ms i o tr hs).tmps = junkT ms i ops.toList 0 ++ (entT (fun k => (mkOf ms i).testBit k) tr ++ s.tmps) := by
    unfold svOf; dsimp only; split <;> rfl
  rw [hT, lk_append] at hl
  have hjlt := c.lt i o ho j hb
  cases h1 : lk (junkT ms i ops.toList 0) g with
  | some z =>
    exfalso
    obtain ⟨_, k, y, hk, hy⟩ := junkT_some h1
    have hkj : k = j := by
      by_cases e : k = j
      · exact e
      · exact absurd hy (c.uniq j x k y g hx (by simpa using hk) (Ne.symm e) hg)
    subst hkj
    -- the entry of an operation that lies ahead is never junk
    have : ∀ (l : List Oper) (k0 : Nat), (∀ (m : Nat) (z : Oper), l[m]? = some z → z.dst = some g → k0 + m = k) → lk (junkT ms i l k0) g = none := by
      intro l
      induction l with
      | nil => intro k0 _; simp [junkT, lk]
      | cons z l ih =>
        intro k0 hm
        simp only [junkT]
        have hrest := ih (k0 + 1) (fun m z' hz hd => by have := hm (m + 1) z' (by simpa using hz) hd; omega)
        split
        · exact hrest
        · rename_i t ht
          cases hc : (mkOf ms i).testBit k0 || (mkOf ms k0).testBit i with
          | true => exact hrest
          | false =>
            simp only [cond_false, lk_cons]
            by_cases e : t = g
            · subst e
              have := hm 0 z (by simp) ht
              simp only [Nat.add_zero] at this
              subst this
              rw [hb] at hc
              simp at hc
            · rw [if_neg e]; exact hrest
    have := this ops.toList 0 (fun m z hz hd => by
      by_cases e : m = k
      · omega
      · exact absurd hd (c.uniq k x m z g hx (by simpa using hz) (Ne.symm e) hg))
    rw [this] at h1
    cases h1
  | none =>
    rw [h1] at hl
    simp only [lk_append] at hl
    cases h2 : lk (entT (fun k => (mkOf ms i).testBit k) tr) g with
    | none =>
      exfalso
      obtain ⟨v, hv⟩ := hp.all j x g hjlt hx hg
      exact entT_none h2 _ hv hb rfl
    | some z =>
      rw [h2] at hl
      simp only [Option.some.injEq] at hl
      subst hl
      obtain ⟨e, he, _, het, hev⟩ := entT_some h2
      obtain ⟨y, hy, hyd⟩ := hp.of e he
      have hei : e.i = j := by
        by_cases e' : e.i = j
        · exact e'
        · exact absurd (het ▸ hyd) (c.uniq j x e.i y g hx hy (Ne.symm e') hg)
      intro f hf hfj
      rw [hp.one f hf e he (by omega), hev]

theorem runDr_plan {call : CallF} {s : St} {n : Nat} (c : Chk ops ms n) : ∀ {l : List Oper} {i : Nat} {tr : List En} {hs : List (Nat × AH)} {F : List En} {G : List (Nat × AH)}, (∀ k, l[k]? = ops[i + k]?) →
    (runDr P call s ops ms l i tr hs).leaf = some (F, G) → PI s ops i tr hs →
    PI s ops (i + l.length) F G ∧ (∀ e ∈ tr, e ∈ F) ∧ (∀ p ∈ hs, p ∈ G) ∧ ∀ k o, i ≤ k → ops[k]? = some o → StepOK P call s ops ms F G k o
  | [], i, tr, hs, F, G, hl, h, hp => by
    simp only [runDr, T.leaf, Option.some.injEq, Prod.mk.injEq] at h
    obtain ⟨rfl, rfl⟩ := h
    refine ⟨by simpa using hp, fun _ h => h, fun _ h => h, fun k o hk ho => ?_⟩
    have := hl (k - i)
    rw [show i + (k - i) = k by omega, ho] at this
    simp at this
  | o :: l, i, tr, hs, F, G, hl, h, hp => by
    have ho : ops[i]? = some o := by have := hl 0; simpa using this.symm
    have hl' : ∀ k, l[k]? = ops[i + 1 + k]? := fun k => by
      have := hl (k + 1)
      rw [List.getElem?_cons_succ] at this
      rw [this, show i + (k + 1) = i + 1 + k by omega]
    have key : ∀ {tr0 tr1 : List En} {v : AV} {g : AH}, PI s ops i tr0 hs → PI s ops i tr1 hs → (∀ e ∈ tr0, e ∈ tr1) → (∀ e ∈ tr, e ∈ tr1) → (kindOf o.op = 0 → g = []) → (kindOf o.op = 1 → allFresh g (entH (fun _ => true) hs ++ (s.rw ++ s.ro)) = true) →
        (runDr P call s ops ms l (i + 1) (addT i o.dst v tr1) ((i, g) :: hs)).leaf = some (F, G) →
        ((o.guard = none ∧ (doDr P call s ops ms i o tr1 hs).leaf = some (v, g)) ∨
         (∃ j want t b, o.guard = some (j, want) ∧ (ops[j]?).bind (·.dst) = some t ∧ lk (svOf s ops ms i o tr0 hs).tmps t = some (.val (.bool b)) ∧
            ((b = want ∧ (doDr P call s ops ms i o tr1 hs).leaf = some (v, g)) ∨ (b ≠ want ∧ v = .val undef ∧ g = []))) ∨
         (∃ j want t vs, o.guard = some (j, want) ∧ (ops[j]?).bind (·.dst) = some t ∧ lk (svOf s ops ms i o tr0 hs).tmps t = some (.val (.tuple vs)) ∧ v = .val undef ∧ g = [])) →
        PI s ops (i + (o :: l).length) F G ∧ (∀ e ∈ tr, e ∈ F) ∧ (∀ p ∈ hs, p ∈ G) ∧ ∀ k o, i ≤ k → ops[k]? = some o → StepOK P call s ops ms F G k o := by
      intro tr0 tr1 v g hp0 hp1 h01 ht1 hk0 hk1 hrun hd
      obtain ⟨r1, r2, r3, r4⟩ := runDr_plan c hl' hrun (hp1.add ho hk1 hk0)
      have hF : ∀ e ∈ tr1, e ∈ F := fun e he => r2 e (mem_addT.2 (.inr he))
      refine ⟨by rw [List.length_cons, show i + (l.length + 1) = i + 1 + l.length by omega]; exact r1, fun e he => hF e (ht1 e he), fun p hp => r3 p (by simp [hp]), fun k o' hk ho' => ?_⟩
      by_cases e : k = i
      · subst e
        rw [ho] at ho'
        cases ho'
        exact ⟨tr0, tr1, hs, v, g, hp0, hp1, fun e he => hF e (h01 e he), hF, fun p hp => r3 p (by simp [hp]), r3 _ (by simp), fun t ht => r2 _ (mem_addT.2 (.inl ⟨t, ht, rfl⟩)), hd⟩
      · exact r4 k o' (by omega) ho'
    simp only [runDr] at h
    split at h
    · rename_i hg
      rw [T.leaf_bind, Option.bind_eq_some_iff] at h
      obtain ⟨⟨v, g⟩, h1, h2⟩ := h
      obtain ⟨_, k0, k1⟩ := doDr_leaf h1
      exact key hp hp (fun _ h => h) (fun _ h => h) k0 k1 h2 (.inl ⟨hg, h1⟩)
    · rename_i j want hg
      split at h
      · rename_i t ht
        split at h
        · rename_i b hlk
          have hjx : ∃ x, ops[j]? = some x ∧ x.dst = some t := by
            cases hx : ops[j]? with
            | none => rw [hx] at ht; simp at ht
            | some x => rw [hx] at ht; exact ⟨x, rfl, by simpa using ht⟩
          obtain ⟨x, hx, hxt⟩ := hjx
          obtain ⟨hbit, hjlt⟩ := c.guard i o j want ho hg
          have hval := guard_val c ho hx hxt hbit hp hlk
          have href : ∀ b', b' = b → PI s ops i (⟨j, t, .val (.bool b')⟩ :: tr) hs := fun b' hb' => by
            subst hb'
            exact hp.refine hjlt ⟨x, hx, hxt⟩ (fun e' he' hei => hval e' he' hei)
          rcases ite_leaf h with ⟨hb, h⟩ | ⟨hb, h⟩
          · have hbw : b = want := by simpa using hb
            rw [T.leaf_bind, Option.bind_eq_some_iff] at h
            obtain ⟨⟨v, g⟩, h1, h2⟩ := h
            obtain ⟨_, k0, k1⟩ := doDr_leaf h1
            exact key hp (href want hbw.symm) (fun e he => by simp [he]) (fun e he => by simp [he]) k0 k1 h2 (.inr (.inl ⟨j, want, t, b, hg, ht, hlk, .inl ⟨hbw, h1⟩⟩))
          · have hbw : b ≠ want := by intro e; subst e; simp at hb
            have hbn : (!want) = b := by cases b <;> cases want <;> simp_all
            exact key hp (href _ hbn) (fun e he => by simp [he]) (fun e he => by simp [he]) (fun _ => rfl) (fun _ => rfl) h (.inr (.inl ⟨j, want, t, b, hg, ht, hlk, .inr ⟨hbw, rfl, rfl⟩⟩))
        · rename_i vs hlk
          exact key hp hp (fun _ h => h) (fun _ h => h) (fun _ => rfl) (fun _ => rfl) h (.inr (.inr ⟨j, want, t, vs, hg, ht, hlk, rfl, rfl⟩))
        · simp [T.leaf] at h
      · simp [T.leaf] at h

end
end Go.Sx

/- Regions that draw their order: the walk over whatever order. -/
namespace Go.Sx

section
variable {P : Program} {W0 : World} {M : Nat → Prop} {ops : Array Oper} {ms : List (Nat × Nat)}

theorem dec_eq {n : Nat} {a b : List (Nat × AH)} (ha : Dec a n) (hb : Dec b n) (hab : ∀ p ∈ a, p ∈ b) : a = b := by
  induction a generalizing b n with
  | nil =>
    simp only [Dec] at ha
    cases b with
    | nil => rfl
    | cons q r => simp only [Dec] at hb; omega
  | cons p l ih =>
    obtain ⟨k, h⟩ := p
    simp only [Dec] at ha
    cases b with
    | nil => simp only [Dec] at hb; omega
    | cons q r =>
      obtain ⟨k', h'⟩ := q
      have hb0 := hb
      simp only [Dec] at hb
      have hkk : k' = k := by omega
      subst hkk
      have e1 := Dec.uniq hb0 k' h' h (by simp) (hab _ (by simp))
      subst e1
      rw [ih ha.2 hb.2 fun p hp => ?_]
      rcases List.mem_cons.1 (hab p (by simp [hp])) with e | e
      · have := Dec.lt ha.2 p.1 p.2 hp
        rw [e] at this
        simp at this
      · exact e

theorem entH_pre {i n : Nat} {hs G : List (Nat × AH)} (hd : Dec hs i) (hG : Dec G n) (hin : i ≤ n) (hsG : ∀ p ∈ hs, p ∈ G) {D : Nat → Bool} (hD : ∀ k, D k = true → k < i) : ∀ id, lk (entH D hs) id = lk (entH D G) id := by
  intro id
  have key : ∀ (G : List (Nat × AH)) (n : Nat), Dec G n → i ≤ n → (∀ p ∈ hs, p ∈ G) → lk (entH D hs) id = lk (entH D G) id := by
    intro G
    induction G with
    | nil =>
      intro n hG hin hsG
      simp only [Dec] at hG
      cases hs with
      | nil => rfl
      | cons p l => exact absurd (hsG p (by simp)) (by simp)
    | cons p l ih =>
      intro n hG hin hsG
      obtain ⟨k, h⟩ := p
      simp only [Dec] at hG
      by_cases e : k < i
      · -- then the lists are one
        have hii : i = k + 1 := by omega
        cases hs with
        | nil => simp only [Dec] at hd; omega
        | cons q r =>
          obtain ⟨k', h'⟩ := q
          simp only [Dec] at hd
          have hkk : k' = k := by omega
          subst hkk
          have e1 := Dec.uniq (hs := (k', h) :: l) (n := n) ⟨hG.1, hG.2⟩ k' h h' (by simp) (hsG _ (by simp))
          subst e1
          have : r = l := by
            have hsub : ∀ p ∈ r, p ∈ l := fun p hp => by
              rcases List.mem_cons.1 (hsG p (by simp [hp])) with e | e
              · have := Dec.lt hd.2 p.1 p.2 hp
                rw [e] at this
                simp at this
              · exact e
            exact dec_eq hd.2 hG.2 hsub
          rw [this]
      · have hf : D k = false := by
          cases hb : D k with
          | false => rfl
          | true => exact absurd (hD k hb) e
        simp only [entH, hf, cond_false]
        refine ih k hG.2 (by omega) fun p hp => ?_
        rcases List.mem_cons.1 (hsG p hp) with e' | e'
        · have := Dec.lt hd p.1 p.2 hp
          rw [e'] at this
          simp at this
          omega
        · exact e'
  exact key G n hG hin hsG

theorem kindOf_cases (o : Op) : kindOf o = 0 ∨ kindOf o = 1 ∨ kindOf o = 2 := by
  have : kind0 o = 0 ∨ kind0 o = 1 ∨ kind0 o = 2 := by
    unfold kind0
    split <;> simp
  unfold kindOf
  split
  · cases globalFree o <;> simp
  · exact this

def Dn (listed : Array Bool) (k : Nat) : Bool := listed.getD k false

/-- How things stand when some of a region's operations have been carried out. -/
structure Inv (W0 : World) (M : Nat → Prop) (ops : Array Oper) (ms : List (Nat × Nat)) (s : St) (F : List En) (G : List (Nat × AH)) (β0 : Env) (listed : Array Bool) (β : Env) (hx : AH) (a : Act) (w : World) : Prop where
  size : listed.size = ops.size
  closed : ∀ (k : Nat) (o : Oper), ops[k]? = some o → Dn listed k = true → ∀ j, (mkOf ms k).testBit j = true → Dn listed j = true
  T : ∀ e ∈ F, Dn listed e.i = true → ∃ x, a.tmps[e.t]? = some x ∧ AVR β e.v x
  B : ∀ t v, lk s.tmps t = some v → (∀ (k : Nat) (o : Oper), ops[k]? = some o → Dn listed k = true → o.dst ≠ some t) → ∃ x, a.tmps[t]? = some x ∧ AVR β v x
  sz : a.tmps.size = s.n
  df : a.defers = []
  H : HI W0 M β (hx ++ s.rw) s.ro w
  X : ∀ id, lk hx id = lk (entH (Dn listed) G) id
  E : Ext β0 β
  L : Loc s.p β0 β
  fr : ∀ k, k < ops.size → Dn listed k = false → ∀ j, desc (idOf s.p (s.next + k)) j → β j = none
  fi : FI β s.p (s.next + ops.size)

theorem Dn_set {listed : Array Bool} {i : Nat} (h : i < listed.size) (k : Nat) : Dn (listed.setIfInBounds i true) k = if k = i then true else Dn listed k := by
  unfold Dn
  by_cases e : k = i
  · subst e; simp [h]
  · rw [if_neg e]
    simp [Array.getElem?_setIfInBounds_ne (Ne.symm e)]

variable {s : St} {F : List En} {G : List (Nat × AH)} {β0 : Env} {listed : Array Bool} {β : Env} {hx : AH} {a : Act} {w : World}

theorem Inv.ti (c : Chk ops ms s.n) (v : Inv W0 M ops ms s F G β0 listed β hx a w) {i : Nat} {o : Oper} (ho : ops[i]? = some o) (hi : Dn listed i = false) (hm : ∀ j, (mkOf ms i).testBit j = true → Dn listed j = true)
    {tr : List En} {hs : List (Nat × AH)} (hp : PI s ops i tr hs) (hF : ∀ e ∈ tr, e ∈ F) : TI β (svOf s ops ms i o tr hs) a := by
  have hT : (svOf s ops ms i o tr hs).tmps = junkT ms i ops.toList 0 ++ (entT (fun k => (mkOf ms i).testBit k) tr ++ s.tmps) := by
    unfold svOf; dsimp only; split <;> rfl
  have hn : (svOf s ops ms i o tr hs).n = s.n := by
    unfold svOf; dsimp only; split <;> rfl
  refine ⟨by rw [hn]; exact v.sz, v.df, fun t u hl => ?_⟩
  rw [hT, lk_append] at hl
  cases h1 : lk (junkT ms i ops.toList 0) t with
  | some z =>
    rw [h1] at hl
    simp only [Option.some.injEq] at hl
    subst hl
    obtain ⟨rfl, k, x, hk, hx⟩ := junkT_some h1
    have hlt := c.dst k x t (by simpa using hk) hx
    exact ⟨a.tmps[t]'(by rw [v.sz]; exact hlt), by simp [v.sz, hlt], by simp [AVR]⟩
  | none =>
    rw [h1] at hl
    simp only [lk_append] at hl
    cases h2 : lk (entT (fun k => (mkOf ms i).testBit k) tr) t with
    | some z =>
      rw [h2] at hl
      simp only [Option.some.injEq] at hl
      subst hl
      obtain ⟨e, he, hb, het, hev⟩ := entT_some h2
      obtain ⟨x, hx1, hx2⟩ := v.T e (hF e he) (hm _ hb)
      rw [het] at hx1
      rw [hev] at hx2
      exact ⟨x, hx1, hx2⟩
    | none =>
      rw [h2] at hl
      refine v.B t u hl fun k x hk hd hxt => ?_
      rcases junkT_none h1 k x (by simpa using hk) hxt with h | h
      · rw [show 0 + k = k by omega] at h
        have hlt := c.lt i o ho k h
        obtain ⟨z, hz⟩ := hp.all k x t hlt hk hxt
        exact entT_none h2 _ hz h rfl
      · rw [show 0 + k = k by omega] at h
        have := v.closed k x hk hd i h
        rw [hi] at this
        cases this

/-- Operations that are not ordered against one that looks at memory do not write what it sees. -/
theorem Inv.later (c : Chk ops ms s.n) (v : Inv W0 M ops ms s F G β0 listed β hx a w) (hG : PI s ops ops.size F G) {i : Nat} {o : Oper} (ho : ops[i]? = some o) (hi : Dn listed i = false) {h : AH} (hm : (i, h) ∈ G) :
    ∀ k h', (k, h') ∈ G → i < k → Dn listed k = true → ∀ id, lk h' id = none ∨ lk h id = none := by
  intro k h' hm' hlt hd id
  obtain ⟨x, hx⟩ := get_of_lt (ops := ops) (Dec.lt hG.dec _ _ hm')
  by_cases k0 : kindOf x.op = 0
  · left; rw [hG.pure k h' x hm' hx k0]; rfl
  by_cases i0 : kindOf o.op = 0
  · right; rw [hG.pure i h o hm ho i0]; rfl
  have hnb : (mkOf ms k).testBit i ≠ true := fun hb => by
    have := v.closed k x hx hd i hb
    rw [hi] at this; cases this
  by_cases k2 : kindOf x.op = 2
  · exact absurd (c.order hx ho hlt (.inr ⟨k2, i0⟩)) hnb
  have k1 : kindOf x.op = 1 := by
    have : kindOf x.op = 0 ∨ kindOf x.op = 1 ∨ kindOf x.op = 2 := kindOf_cases _
    omega
  cases e : lk h' id with
  | none => exact .inl rfl
  | some y => exact .inr ((hG.fresh k h' x hm' hx k1 id y e).2 i h hm hlt)

/-- One operation that has been carried out. -/
theorem Inv.step (c : Chk ops ms s.n) (v : Inv W0 M ops ms s F G β0 listed β hx a w) (hG : PI s ops ops.size F G) {i : Nat} {o : Oper} (ho : ops[i]? = some o) (hi : Dn listed i = false) (hm : ∀ j, (mkOf ms i).testBit j = true → Dn listed j = true)
    (hp : 1 ≤ s.p) (hnx : s.next + ops.size ≤ 65536) {u : AV} {h : AH} (hmem : (i, h) ∈ G) (hF : ∀ t, o.dst = some t → (⟨i, t, u⟩ : En) ∈ F) {β' : Env} {w' : World} {x : Value} (he : Ext β β') (hl : Loc (idOf s.p (s.next + i)) β β') (hv : AVR β' u x)
    (hH : HI W0 M β' ((h ++ hx) ++ s.rw) s.ro w') : Inv W0 M ops ms s F G β0 (listed.setIfInBounds i true) β' (h ++ hx) (a.put o.dst x) w' := by
  have hlt := lt_of_get ho
  have hD := fun k => Dn_set (listed := listed) (i := i) (by rw [v.size]; exact hlt) k
  have hput : ∀ t, o.dst ≠ some t → (a.put o.dst x).tmps[t]? = a.tmps[t]? := fun t ht => by
    cases hd : o.dst with
    | none => rfl
    | some q =>
      simp only [Act.put]
      rw [Array.getElem?_setIfInBounds_ne (fun e => ht (by rw [hd, e]))]
  refine { size := by simp [v.size], closed := fun k y hk hd j hj => ?_, T := fun e hee hd => ?_, B := fun t z hz hno => ?_, sz := ?_, df := ?_, H := hH, X := fun id => ?_, E := v.E.trans he, L := v.L.trans (hl.up (by omega)), fr := fun k hk hd j hj => ?_, fi := fun c' h1 h2 j hj => ?_ }
  · rw [hD] at hd ⊢
    by_cases e : j = i
    · rw [if_pos e]
    · rw [if_neg e]
      by_cases e' : k = i
      · subst e'
        exact hm j hj
      · rw [if_neg e'] at hd
        exact v.closed k y hk hd j hj
  · rw [hD] at hd
    obtain ⟨y, hy, hyd⟩ := hG.of e hee
    by_cases e' : e.i = i
    · rw [e', ho] at hy
      cases hy
      have h1 := hG.one e hee _ (hF e.t hyd) e'
      have htl := c.dst i o e.t ho hyd
      refine ⟨x, ?_, by rw [h1]; exact hv⟩
      rw [hyd]
      simp only [Act.put]
      rw [Array.getElem?_setIfInBounds_self_of_lt (by rw [v.sz]; exact htl)]
    · rw [if_neg e'] at hd
      obtain ⟨z, hz1, hz2⟩ := v.T e hee hd
      exact ⟨z, by rw [hput e.t (c.uniq e.i y i o e.t hy ho e' hyd)]; exact hz1, hz2.mono he⟩
  · have h1 : o.dst ≠ some t := hno i o ho (by rw [hD, if_pos rfl])
    obtain ⟨y, hy1, hy2⟩ := v.B t z hz fun k y hk hd => hno k y hk (by rw [hD]; split <;> simp_all)
    exact ⟨y, by rw [hput t h1]; exact hy1, hy2.mono he⟩
  · cases hd : o.dst <;> simp [Act.put, v.sz]
  · cases hd : o.dst <;> simp [Act.put, v.df]
  · have hsame : lk (h ++ hx) id = lk (h ++ entH (Dn listed) G) id := by rw [lk_append, lk_append, v.X]
    rw [hsame]
    exact (lk_entH_add' (D' := Dn (listed.setIfInBounds i true)) hi (by rw [hD, if_pos rfl]) (fun k hk => by rw [hD, if_neg hk]) hG.dec hmem (fun k h' hm' hlt' hd' => v.later c hG ho hi hmem k h' hm' hlt' hd' id)).symm
  · rw [hD] at hd
    by_cases e : k = i
    · simp [e] at hd
    · rw [if_neg e] at hd
      rw [hl j (fun hj' => desc.apart hp (by omega) (by omega) (by omega) hj' hj)]
      exact v.fr k hk hd j hj
  · rw [hl j (fun hj' => desc.apart hp (by omega) h2 (by omega) hj' hj)]
    exact v.fi c' h1 h2 j hj

/-- What an operation sees lies there. -/
theorem Inv.sees (c : Chk ops ms s.n) (v : Inv W0 M ops ms s F G β0 listed β hx a w) (hG : PI s ops ops.size F G) {i : Nat} {o : Oper} (ho : ops[i]? = some o) (hi : Dn listed i = false) (hm : ∀ j, (mkOf ms i).testBit j = true → Dn listed j = true)
    (hk : kindOf o.op = 1) {tr : List En} {hs : List (Nat × AH)} (hp : PI s ops i tr hs) (hsG : ∀ p ∈ hs, p ∈ G) :
    ∀ id cs, lk (entH (fun k => (mkOf ms i).testBit k) hs ++ (s.rw ++ s.ro)) id = some (some cs) → lk (hx ++ s.rw ++ s.ro) id = some (some cs) := by
  intro id cs hl
  -- the whole list serves as well as its beginning
  have hpre : lk (entH (fun k => (mkOf ms i).testBit k) hs) id = lk (entH (fun k => (mkOf ms i).testBit k) G) id :=
    entH_pre hp.dec hG.dec (Nat.le_of_lt (lt_of_get ho)) hsG (fun k hk => c.lt i o ho k hk) id
  rw [lk_append, hpre] at hl
  have hsame : lk (entH (fun k => (mkOf ms i).testBit k) G) id = lk (entH (Dn listed) G) id := by
    refine lk_entH_eq fun k h hmem hne => ?_
    have hbk : (mkOf ms i).testBit k ≠ true := fun hb => hne (by rw [hb, hm k hb])
    have hdk : Dn listed k = true := by
      cases hd : Dn listed k with
      | true => rfl
      | false => exact absurd (by rw [hd]; simpa using hbk) hne
    have hki : k ≠ i := fun e => by rw [e, hi] at hdk; cases hdk
    obtain ⟨x, hx'⟩ := get_of_lt (ops := ops) (Dec.lt hG.dec _ _ hmem)
    by_cases k0 : kindOf x.op = 0
    · rw [hG.pure k h x hmem hx' k0]; rfl
    -- it doesn't write
    have k1 : kindOf x.op = 1 := by
      have h3 := kindOf_cases x.op
      have : kindOf x.op ≠ 2 := fun k2 => by
        rcases Nat.lt_or_gt_of_ne hki with hlt | hlt
        · exact hbk (c.order ho hx' hlt (.inl ⟨k2, by omega⟩))
        · have := v.closed k x hx' hdk i (c.order hx' ho hlt (.inr ⟨k2, by omega⟩))
          rw [hi] at this; cases this
      omega
    cases e : lk h id with
    | none => rfl
    | some y =>
      exfalso
      obtain ⟨f1, f2⟩ := hG.fresh k h x hmem hx' k1 id y e
      cases e1 : lk (entH (fun k => (mkOf ms i).testBit k) G) id with
      | none =>
        rw [e1] at hl
        rw [f1] at hl
        cases hl
      | some z =>
        obtain ⟨k', h', hm', hb', hs'⟩ := lk_entH_some e1
        have hlk : lk h' id ≠ none := fun e => by rw [e] at hs'; cases hs'
        have hne' : k' ≠ k := fun e => hbk (e ▸ hb')
        obtain ⟨x', hx''⟩ := get_of_lt (ops := ops) (Dec.lt hG.dec _ _ hm')
        rcases Nat.lt_or_gt_of_ne hne' with hlt | hlt
        · exact hlk (f2 k' h' hm' hlt)
        · by_cases k0' : kindOf x'.op = 0
          · rw [hG.pure k' h' x' hm' hx'' k0'] at hlk; exact hlk rfl
          by_cases k2' : kindOf x'.op = 2
          · exact hbk (c.trans i o ho k' hb' k (c.order hx'' hx' hlt (.inr ⟨k2', by omega⟩)))
          · have k1' : kindOf x'.op = 1 := by have := kindOf_cases x'.op; omega
            cases e2 : lk h' id with
            | none => exact hlk e2
            | some y' =>
              have := (hG.fresh k' h' x' hm' hx'' k1' id y' e2).2 k h hmem hlt
              rw [e] at this; cases this
  rw [List.append_assoc, lk_append, v.X, ← hsame]
  exact hl

/-- What a store sees is all that was made. -/
theorem Inv.writes (c : Chk ops ms s.n) (v : Inv W0 M ops ms s F G β0 listed β hx a w) (hG : PI s ops ops.size F G) {i : Nat} {o : Oper} (ho : ops[i]? = some o) (hi : Dn listed i = false) (hm : ∀ j, (mkOf ms i).testBit j = true → Dn listed j = true)
    (hk : kindOf o.op = 2) {tr : List En} {hs : List (Nat × AH)} (hp : PI s ops i tr hs) (hsG : ∀ p ∈ hs, p ∈ G) : ∀ id, lk (entH (fun _ => true) hs) id = lk hx id := by
  intro id
  have h0 : lk (entH (fun _ => true) hs) id = lk (entH (fun k => decide (k < i)) hs) id := lk_entH_eq fun k h hmem hne => by
    have := Dec.lt hp.dec _ _ hmem
    simp [this] at hne
  rw [h0, entH_pre hp.dec hG.dec (Nat.le_of_lt (lt_of_get ho)) hsG (D := fun k => decide (k < i)) (fun k hk => by simpa using hk) id, v.X]
  refine lk_entH_eq fun k h hmem hne => ?_
  obtain ⟨x, hx'⟩ := get_of_lt (ops := ops) (Dec.lt hG.dec _ _ hmem)
  by_cases k0 : kindOf x.op = 0
  · rw [hG.pure k h x hmem hx' k0]; rfl
  exfalso
  by_cases hlt : k < i
  · have := hm k (c.order ho hx' hlt (.inr ⟨hk, k0⟩))
    simp [hlt, this] at hne
  · have hd : Dn listed k = true := by
      cases hd : Dn listed k with
      | true => rfl
      | false => simp [hlt, hd] at hne
    have hki : k ≠ i := fun e => by rw [e, hi] at hd; cases hd
    have := v.closed k x hx' hd i (c.order hx' ho (by omega) (.inl ⟨hk, k0⟩))
    rw [hi] at this; cases this

end
end Go.Sx

/- Regions that draw their order: whatever order, one end. -/
namespace Go.Sx

section
variable {P : Program} {W0 : World} {M : Nat → Prop} {ops : Array Oper} {ms : List (Nat × Nat)} {s : St} {F : List En} {G : List (Nat × AH)} {β0 : Env}

theorem after_kind {o : Op} {s' : St} (hs : s'.rw = []) (r : AH) : (s'.after o r).rw = r := by
  unfold St.after
  cases isCall o <;> simp [hs]

theorem kind2_notcall {o : Op} (h : kindOf o = 2) : isCall o = false := by
  unfold isCall
  split
  · exfalso
    unfold kindOf at h
    simp only [kind0] at h
    omega
  · rfl

/-- An operation that may come next is carried out. -/
theorem Inv.one (c : Chk ops ms s.n) {call : CallF} (gc : GoodCall P call) {listed : Array Bool} {β : Env} {hx : AH} {a : Act} {w : World} (v : Inv W0 M ops ms s F G β0 listed β hx a w) (hG : PI s ops ops.size F G)
    (hp : 1 ≤ s.p) (hnx : s.next + ops.size ≤ 65536) {i : Nat} (hr : i ∈ Region.ready .any ops listed) (hst : ∀ o, ops[i]? = some o → StepOK P call s ops ms F G i o) {K : Act → World → Prop} {Q : Exit → Act → World → Prop}
    (hK : ∀ β' hx' a' w', Inv W0 M ops ms s F G β0 (listed.setIfInBounds i true) β' hx' a' w' → K a' w') : wpOp P ops Q i K a w := by
  obtain ⟨hu, o, ho, hall⟩ := mem_ready.1 hr
  have hlt := lt_of_get ho
  have hi : Dn listed i = false := by
    unfold Dn
    have : i < listed.size := by rw [v.size]; exact hlt
    simp [this] at hu ⊢
    exact hu
  have hm : ∀ j, (mkOf ms i).testBit j = true → Dn listed j = true := fun j hj => by
    obtain ⟨e, he, hb, h | h⟩ := (c.mask i o ho j).1 hj
    · subst h
      exact hall e (by simpa using he) hb
    · have h1 := c.edge i o e ho he hb
      obtain ⟨z, hz⟩ := get_of_lt (ops := ops) (i := e.on) (by omega)
      exact v.closed e.on z hz (hall e (by simpa using he) hb) j h
  obtain ⟨tr0, tr, hs, u, h, p0, p1, f0, f1, fG, hmem, hF, hd⟩ := (hst o ho).ex
  have step := fun {β' : Env} {w' : World} {x : Value} (he : Ext β β') (hl : Loc (idOf s.p (s.next + i)) β β') (hv : AVR β' u x) (hH : HI W0 M β' ((h ++ hx) ++ s.rw) s.ro w') =>
    v.step c hG ho hi hm hp hnx hmem hF he hl hv hH
  have exec : (doDr P call s ops ms i o tr hs).leaf = some (u, h) → o.wp P a w K Q := by
    intro hdo
    obtain ⟨⟨u', hh, e1, e0⟩, e2, e3⟩ := doDr_leaf hdo
    have hti := v.ti c ho hi hm p1 f1
    have hid : 900 ≤ idOf s.p (s.next + i) := by unfold idOf; omega
    have hfree := v.fr i hlt hi
    rcases kindOf_cases o.op with k | k | k
    · have hrw : (svOf s ops ms i o tr hs).rw = [] := by unfold svOf; rw [k]; rfl
      have hro : (svOf s ops ms i o tr hs).ro = [] := by unfold svOf; rw [k]; rfl
      have hhi : HI w (fun _ => False) β (svOf s ops ms i o tr hs).rw (svOf s ops ms i o tr hs).ro w := by
        rw [hrw, hro]
        exact v.H.still (fun id cs hl => by simp [lk] at hl)
      refine stepOp_sound gc hhi hti hid hfree e1 _ _ fun β' w' x g1 g2 g3 g4 => ?_
      rw [after_kind hrw] at g4
      exact hK _ _ _ _ (step g1 g2 (useHint_sound e0 g3) (by rw [List.append_assoc]; exact v.H.merge g4 g1))
    · have hrw : (svOf s ops ms i o tr hs).rw = [] := by unfold svOf; rw [k]; rfl
      have hro : (svOf s ops ms i o tr hs).ro = entH (fun k => (mkOf ms i).testBit k) hs ++ (s.rw ++ s.ro) := by unfold svOf; rw [k]; rfl
      have hhi : HI w (fun _ => False) β (svOf s ops ms i o tr hs).rw (svOf s ops ms i o tr hs).ro w := by
        rw [hrw, hro]
        exact v.H.still (v.sees c hG ho hi hm k p1 fG)
      refine stepOp_sound gc hhi hti hid hfree e1 _ _ fun β' w' x g1 g2 g3 g4 => ?_
      rw [after_kind hrw] at g4
      exact hK _ _ _ _ (step g1 g2 (useHint_sound e0 g3) (by rw [List.append_assoc]; exact v.H.merge g4 g1))
    · have hrw : (svOf s ops ms i o tr hs).rw = entH (fun _ => true) hs ++ s.rw := by unfold svOf; rw [k]; rfl
      have hro : (svOf s ops ms i o tr hs).ro = s.ro := by unfold svOf; rw [k]; rfl
      have hsame := v.writes c hG ho hi hm k p1 fG
      have hlk : ∀ id, lk (entH (fun _ => true) hs ++ s.rw) id = lk (hx ++ s.rw) id := fun id => by rw [lk_append, lk_append, hsame]
      have hhi : HI W0 M β (svOf s ops ms i o tr hs).rw (svOf s ops ms i o tr hs).ro w := by
        rw [hrw, hro]
        refine v.H.sub (fun id cs hl => ?_) (fun id cs hl => by rwa [hlk] at hl)
        rw [lk_append, hlk] at hl
        rw [lk_append]
        exact hl
      refine stepOp_sound gc hhi hti hid hfree e1 _ _ fun β' w' x g1 g2 g3 g4 => ?_
      have hafter : ((svOf s ops ms i o tr hs).after o.op h).rw = h ++ (entH (fun _ => true) hs ++ s.rw) := by
        unfold St.after
        rw [kind2_notcall k, hrw]
        rfl
      rw [hafter, hro] at g4
      refine hK _ _ _ _ (step g1 g2 (useHint_sound e0 g3) ?_)
      have hlk2 : ∀ id, lk (h ++ hx ++ s.rw) id = lk (h ++ (entH (fun _ => true) hs ++ s.rw)) id := fun id => by
        rw [List.append_assoc, lk_append, lk_append (a := h) (b := entH (fun _ => true) hs ++ s.rw), hlk]
      refine g4.sub (fun id cs hl => ?_) (fun id cs hl => by rwa [hlk2] at hl)
      rw [lk_append, hlk2] at hl
      rw [lk_append]
      exact hl
  unfold wpOp
  simp only [ho]
  rcases hd with ⟨hg, hdo⟩ | ⟨j, want, g, b, hg, hdst, hlk, hd⟩ | ⟨j, want, g, vs, hg, hdst, hlk, rfl, rfl⟩
  · rw [if_pos (by simp [Region.wanted, hg])]
    exact .inl (exec hdo)
  · have hti0 := v.ti c ho hi hm p0 f0
    obtain ⟨y, hy1, hy2⟩ := hti0.tm g _ hlk
    simp only [AVR] at hy2
    subst hy2
    have hyl : yielded ops a.tmps j = some b := by simp [yielded, hdst, hy1]
    have hw : Region.wanted o (yielded ops a.tmps) = (b == want) := by
      simp only [Region.wanted, hg, hyl]
      cases b <;> cases want <;> rfl
    rcases hd with ⟨hbw, hdo⟩ | ⟨hbw, rfl, rfl⟩
    · rw [if_pos (by rw [hw]; simp [hbw])]
      exact .inl (exec hdo)
    · rw [if_neg (by rw [hw]; simpa using hbw)]
      exact hK _ _ _ _ (step (Ext.refl _) (Loc.refl _ _) (by simp [AVR]) (by simpa using v.H))
  · have hti0 := v.ti c ho hi hm p0 f0
    obtain ⟨y, hy1, hy2⟩ := hti0.tm g _ hlk
    simp only [AVR] at hy2
    subst hy2
    have hyl : yielded ops a.tmps j = none := by simp [yielded, hdst, hy1]
    have hw : Region.wanted o (yielded ops a.tmps) = false := by
      simp only [Region.wanted, hg, hyl]
      rfl
    rw [if_neg (by rw [hw]; simp)]
    exact hK _ _ _ _ (step (Ext.refl _) (Loc.refl _ _) (by simp [AVR]) (by simpa using v.H))

def unl (listed : Array Bool) : Nat → Nat
  | 0 => 0
  | n + 1 => unl listed n + (if Dn listed n then 0 else 1)

theorem unl_set {listed : Array Bool} {i : Nat} (hi : Dn listed i = false) (hs : i < listed.size) : ∀ n, unl (listed.setIfInBounds i true) n + (if i < n then 1 else 0) = unl listed n
  | 0 => by simp [unl]
  | n + 1 => by
    have ih := unl_set hi hs n
    simp only [unl, Dn_set hs]
    by_cases e : n = i
    · subst e
      simp [hi] at ih ⊢
      omega
    · rw [if_neg e]
      generalize (if Dn listed n = true then 0 else 1) = z
      by_cases h : i < n
      · rw [if_pos h] at ih
        rw [if_pos (show i < n + 1 by omega)]
        omega
      · rw [if_neg h] at ih
        rw [if_neg (show ¬ i < n + 1 by omega)]
        omega

theorem unl_zero {listed : Array Bool} : ∀ {n : Nat}, unl listed n = 0 → ∀ k, k < n → Dn listed k = true
  | 0, _, k, hk => by omega
  | n + 1, h, k, hk => by
    simp only [unl] at h
    by_cases e : k = n
    · subst e
      cases hd : Dn listed k with
      | true => rfl
      | false => simp [hd] at h
    · exact unl_zero (n := n) (by omega) k (by omega)

/-- Where nothing may come next, all has been carried out. -/
theorem all_done (c : Chk ops ms s.n) {listed : Array Bool} (hsz : listed.size = ops.size) (hr : Region.ready .any ops listed = []) : ∀ k, k < ops.size → Dn listed k = true := by
  intro k
  induction k using Nat.strongRecOn with
  | _ k ih =>
    intro hk
    obtain ⟨o, ho⟩ := get_of_lt hk
    cases hd : Dn listed k with
    | true => rfl
    | false =>
      exfalso
      have : k ∈ Region.ready .any ops listed := mem_ready.2 ⟨by
        unfold Dn at hd
        have : k < listed.size := by omega
        simp [this] at hd ⊢
        exact hd, o, ho, fun e he hb => by
        have h1 := c.edge k o e ho (by simpa using he) hb
        exact ih e.on h1 (by omega)⟩
      rw [hr] at this
      simp at this

theorem any_sound (c : Chk ops ms s.n) {call : CallF} (gc : GoodCall P call) (hG : PI s ops ops.size F G) (hp : 1 ≤ s.p) (hnx : s.next + ops.size ≤ 65536) (hst : ∀ i o, ops[i]? = some o → StepOK P call s ops ms F G i o) {Q : Exit → Act → World → Prop}
    (hQ : ∀ listed β hx a w, Inv W0 M ops ms s F G β0 listed β hx a w → (∀ k, k < ops.size → Dn listed k = true) → Q .normal a w) :
    ∀ (fuel : Nat) {listed : Array Bool} {β : Env} {hx : AH} {a : Act} {w : World}, Inv W0 M ops ms s F G β0 listed β hx a w → unl listed ops.size = fuel → wpAny P .any ops Q fuel listed a w
  | 0, listed, β, hx, a, w, v, hf => by
    have hall := unl_zero hf
    refine ⟨?_, hQ listed β hx a w v hall⟩
    cases hr : Region.ready .any ops listed with
    | nil => rfl
    | cons i r =>
      exfalso
      have : i ∈ Region.ready .any ops listed := by rw [hr]; simp
      obtain ⟨hu, o, ho, _⟩ := mem_ready.1 this
      have hlt := lt_of_get ho
      have := hall i hlt
      unfold Dn at this
      have hs : i < listed.size := by rw [v.size]; exact hlt
      simp [hs] at hu this
      rw [hu] at this
      cases this
  | fuel + 1, listed, β, hx, a, w, v, hf => by
    refine ⟨fun hr => hQ listed β hx a w v (all_done c v.size hr), fun i hr => ?_⟩
    refine v.one c gc hG hp hnx hr (fun o ho => hst i o ho) fun β' hx' a' w' v' => ?_
    refine any_sound c gc hG hp hnx hst hQ fuel v' ?_
    obtain ⟨hu, o, ho, _⟩ := mem_ready.1 hr
    have hlt := lt_of_get ho
    have hs : i < listed.size := by rw [v.size]; exact hlt
    have hi : Dn listed i = false := by
      unfold Dn
      simp [hs] at hu ⊢
      exact hu
    have := unl_set hi hs ops.size
    rw [if_pos hlt] at this
    omega

theorem unl_start : ∀ (m n : Nat), unl (Array.replicate m false) n = n
  | _, 0 => rfl
  | m, n + 1 => by
    have : Dn (Array.replicate m false) n = false := by
      unfold Dn
      simp only [Array.getD_eq_getD_getElem?, Array.getElem?_replicate]
      split <;> rfl
    simp [unl, unl_start m n, this]

/-- A REGION THAT DRAWS ITS ORDER: whatever the order, it comes to what the evaluator says. -/
theorem drawn_good (hmix : P.follows .mixedOrders = true) {call : CallF} (gc : GoodCall P call) : GoodDr P (drawn P call) := by
  intro id ops s s' h W0 M β a w ht hi hp hf Q hq
  unfold drawn at h
  simp only [leaf_cond] at h
  cases hc : drOK ops (masks ops.toList 0 []) s.n ops.toList [] 0 && Nat.ble (s.next + ops.size) 65536 with
  | false => simp [hc, T.leaf] at h
  | true =>
    simp only [hc, cond_true] at h
    simp only [Bool.and_eq_true] at hc
    have hnx := Nat.le_of_ble_eq_true hc.2
    have c := Chk.of hc.1
    rw [T.leaf_bind, Option.bind_eq_some_iff] at h
    obtain ⟨⟨F, G⟩, h1, h2⟩ := h
    simp only [T.leaf, Option.some.injEq] at h2
    subst h2
    obtain ⟨hG, _, _, hst⟩ := runDr_plan c (l := ops.toList) (i := 0) (by simp) h1 (PI.start s ops)
    rw [Nat.zero_add, Array.length_toList] at hG
    have hD0 : ∀ k, Dn (Array.replicate ops.size false) k = false := fun k => by
      unfold Dn
      simp only [Array.getD_eq_getD_getElem?, Array.getElem?_replicate]
      split <;> rfl
    have hH0 : ∀ G : List (Nat × AH), entH (Dn (Array.replicate ops.size false)) G = [] := fun G => by
      induction G with
      | nil => rfl
      | cons p l ih => simp [entH, hD0, ih]
    refine wp_region_any hmix (any_sound c gc hG hp hnx (fun i o ho => hst i o (Nat.zero_le _) ho) (β0 := β) (W0 := W0) (M := M) ?_ ops.size (β := β) (hx := []) ?_ (unl_start _ _))
    · intro listed β' hx a' w' v hall
      refine hq β' a' w' v.E v.L v.fi ⟨v.sz, v.df, fun t u hl => ?_⟩ ?_ ⟨rfl, rfl, rfl⟩
      · rw [lk_append] at hl
        cases e1 : lk (entT (fun _ => true) F) t with
        | some z =>
          rw [e1] at hl
          simp only [Option.some.injEq] at hl
          subst hl
          obtain ⟨e, he, _, het, hev⟩ := entT_some e1
          obtain ⟨x, hx1, hx2⟩ := v.T e he (hall _ (hG.lt e he))
          rw [het] at hx1
          rw [hev] at hx2
          exact ⟨x, hx1, hx2⟩
        | none =>
          rw [e1] at hl
          refine v.B t u hl fun k o hk hd hot => ?_
          obtain ⟨z, hz⟩ := hG.all k o t (lt_of_get hk) hk hot
          exact entT_none e1 _ hz rfl rfl
      · have hlk : ∀ id, lk (entH (fun _ => true) G ++ s.rw) id = lk (hx ++ s.rw) id := fun id => by
          rw [lk_append, lk_append, v.X]
          rw [lk_entH_eq (E := Dn listed) fun k h hm hne => by
            rw [hall k (Dec.lt hG.dec _ _ hm)] at hne
            exact absurd rfl hne]
        refine v.H.sub (fun id cs hl => ?_) (fun id cs hl => by rwa [hlk] at hl)
        rw [lk_append, hlk] at hl
        rw [lk_append]
        exact hl
    · exact { size := by simp, closed := fun k o _ hd => (by rw [hD0] at hd; cases hd), T := fun e _ hd => (by rw [hD0] at hd; cases hd), B := fun t u hl _ => ht.tm t u hl, sz := ht.sz, df := ht.df, H := by simpa using hi.drew, X := fun id => by rw [hH0]
              E := Ext.refl _, L := Loc.refl _ _, fr := fun k hk _ j hj => hf (s.next + k) (by omega) (by omega) j hj, fi := hf.mono (by omega) }

end
end Go.Sx

/- A call whose ways are put together again: it gives a truth value, and turns no block. -/
namespace Go.Sx

/-- The truth value that comes out, whichever way is gone. -/
def mergeB : T Res → Option Bool
  | .ret r => match r.1 with
    | .val (.bool b) => some b
    | _ => none
  | .ite b t e => cond b (mergeB t) (mergeB e)
  | .both b t e => match mergeB t, mergeB e with
    | some x, some y => some (cond b x y)
    | _, _ => none
  | _ => none

theorem mergeB_leaf : ∀ {t : T Res} {b : Bool}, mergeB t = some b → ∃ h, t.leaf = some (.val (.bool b), h)
  | .ret r, b, h => by
    obtain ⟨v, g⟩ := r
    simp only [mergeB] at h
    split at h
    · cases h
      exact ⟨g, rfl⟩
    · cases h
  | .ite c t e, b, h => by
    cases c
    · exact mergeB_leaf (t := e) h
    · exact mergeB_leaf (t := t) h
  | .both c t e, b, h => by
    simp only [mergeB] at h
    split at h
    · rename_i x y hx hy
      cases h
      cases c
      · exact mergeB_leaf (t := e) hy
      · exact mergeB_leaf (t := t) hx
    · cases h
  | .asm _ _, _, h => by simp [mergeB] at h
  | .fail, _, h => by simp [mergeB] at h

def mergeC (g : CallF) : CallF := fun f args rw ro base => match mergeB (g f args [] (rw ++ ro) base) with
  | some b => .ret (.val (.bool b), rw)
  | none => .fail

theorem HI.over {W0 : World} {M : Nat → Prop} {β β' : Env} {rw ro ro' h : AH} {w w' : World} (a : HI W0 M β rw ro w) (b : HI w (fun _ => False) β' h ro' w') (he : Ext β β') : HI W0 M β' rw ro w' := by
  have := a.merge (h := []) (ro' := []) (b.sub (rw' := []) (ro' := []) (fun id cs hl => by simp [lk] at hl) (fun id cs hl => by simp [lk] at hl)) he
  simpa using this

theorem CallOK.mono {P : Program} {f : FuncId} {args : Array Value} {w : World} {R S : Value → World → Prop} (h : CallOK P f args w R) (k : ∀ x w', R x w' → S x w') : CallOK P f args w S := by
  rcases h with ⟨h1, h2⟩ | ⟨x, w', h1, h2⟩
  · exact .inl ⟨h1, h2.mono fun e w' ⟨x, e1, e2⟩ => ⟨x, e1, k _ _ e2⟩⟩
  · exact .inr ⟨x, w', h1, k _ _ h2⟩

theorem mergeC_good {P : Program} {g : CallF} (gc : GoodCall P g) : GoodCall P (mergeC g) := by
  intro f args rw ro base r h W0 M β w avs hargs hi hp hf
  unfold mergeC at h
  split at h
  · rename_i b hb
    simp only [T.leaf, Option.some.injEq] at h
    subst h
    obtain ⟨h', hl⟩ := mergeB_leaf hb
    refine (gc f args [] (rw ++ ro) base _ hl w (fun _ => False) β w avs hargs (hi.still fun id cs hl => hl) hp hf).mono fun x w' ⟨β', e1, e2, e3, e4⟩ => ⟨β', e1, e2, e3, hi.over e4 e1⟩
  · simp [T.leaf] at h

end Go.Sx

/- The evaluator at a call that enters the program: its arguments, and what its ending says. -/
namespace Go.Sx
open Go.RowKit

/-- What the cells of an argument hold, by their places. -/
structure Vars where
  n : Nat → Int
  b : Nat → Bool
  a : Nat → Option Addr
  l : Nat → Nat
  c : Nat → Nat
  s : Nat → ByteArray

def cellA (P : Program) (x : Vars) (t : TypeId) (i : Nat) : AV := match P.underlying t with
  | some (.int k) => .val (.int k (x.n i))
  | some .bool => .val (.bool (x.b i))
  | some .string => .val (.string (x.s i))
  | some (.pointer _) => .val (.pointer (x.a i))
  | some (.slice _) => .val (.slice (x.a i) (x.l i) (x.c i))
  | _ => .junk

def cellsA (P : Program) (x : Vars) : List TypeId → Nat → List AV
  | [], _ => []
  | t :: r, i => cellA P x t i :: cellsA P x r (i + 1)

def boolOf : Value → Bool
  | .bool b => b
  | _ => false
def addrOf : Value → Option Addr
  | .pointer a => a
  | .slice a _ _ => a
  | _ => none
def lenOf : Value → Nat
  | .slice _ n _ => n
  | _ => 0
def capOf : Value → Nat
  | .slice _ _ n => n
  | _ => 0
def strOf : Value → ByteArray
  | .string s => s
  | _ => .empty

/-- The cells' own. -/
def Vars.of (cs : Array Value) : Vars :=
  { n := fun i => intOf (cs[i]?.getD undef), b := fun i => boolOf (cs[i]?.getD undef), a := fun i => addrOf (cs[i]?.getD undef), l := fun i => lenOf (cs[i]?.getD undef),
    c := fun i => capOf (cs[i]?.getD undef), s := fun i => strOf (cs[i]?.getD undef) }

theorem cellA_ok {P : Program} {w : World} {r : Reach} {base : Nat} {t : TypeId} {cs : Array Value} {i : Nat} {v : Value} {β : Env} (hi : cs[i]? = some v) (h : Cell.okWide P w r base t v) : AVR β (cellA P (Vars.of cs) t i) v := by
  unfold cellA
  simp only [Vars.of, hi, Option.getD_some]
  unfold Cell.okWide Cell.ok at h
  split
  · rename_i k hk
    rw [hk] at h
    cases v <;> simp_all [AVR, intOf]
  · rename_i hk
    rw [hk] at h
    cases v <;> simp_all [AVR, boolOf]
  · rename_i hk
    rw [hk] at h
    cases v <;> simp_all [AVR, strOf]
  · rename_i e hk
    rw [hk] at h
    cases v <;> simp_all [AVR, addrOf]
  · rename_i e hk
    rw [hk] at h
    cases v <;> simp_all [AVR, addrOf, lenOf, capOf]
  · simp [AVR]

theorem cellsA_ok {P : Program} {w : World} {r : Reach} {base : Nat} {β : Env} {cs : Array Value} : ∀ {ts : List TypeId} {vs : List Value} {i : Nat}, ts.length = vs.length →
    (∀ j v, vs[j]? = some v → cs[i + j]? = some v ∧ ∃ u, ts[j]? = some u ∧ Cell.okWide P w r base u v) → AVRs β (cellsA P (Vars.of cs) ts i) vs
  | [], [], _, _, _ => by simp [cellsA, AVRs]
  | t :: ts, v :: vs, i, hl, h => by
    obtain ⟨h1, u, h3, h4⟩ := h 0 v rfl
    simp only [List.getElem?_cons_zero, Option.some.injEq] at h3
    subst h3
    simp only [cellsA, AVRs]
    refine ⟨cellA_ok (by simpa using h1) h4, cellsA_ok (P := P) (w := w) (r := r) (base := base) (by simpa using hl) fun j x hx => ?_⟩
    have := h (j + 1) x (by simpa using hx)
    rw [show i + 1 + j = i + (j + 1) by omega]
    simpa using this
  | [], _ :: _, _, hl, _ => by simp at hl
  | _ :: _, [], _, hl, _ => by simp at hl

/-- An array or a struct, cell by cell. -/
theorem okWide_cells {P : Program} {w : World} {r : Reach} {base : Nat} {t : TypeId} {v : Value} (h : Value.okWide P w r base t v) (ha : isAgg? P t = some true) {ts : List TypeId} (hts : P.cellTypes P.depth t = some ts) (hn : P.cellsOf t = ts.length) :
    ∃ cs : Array Value, v = .agg cs ∧ cs.size = ts.length ∧ (∀ (i : Nat) (x : Value), cs[i]? = some x → ∃ u, ts[i]? = some u ∧ Cell.okWide P w r base u x) ∧ ∀ β, AVR β (.agg (cellsA P (Vars.of cs) ts 0)) v := by
  have h' : ∃ cs, v = .agg cs ∧ cs.size = P.cellsOf t ∧ Row.okWide P w r base t cs := by
    unfold isAgg? at ha
    unfold Value.okWide at h
    split at ha <;> rename_i e <;> simp_all
  obtain ⟨cs, rfl, hsz, ts', hts', _, hall⟩ := h'
  rw [hts] at hts'
  cases hts'
  have hall' : ∀ (i : Nat) (x : Value), cs[i]? = some x → ∃ u, ts[i]? = some u ∧ Cell.okWide P w r base u x := fun i x hx => by
    obtain ⟨u, hu, hc⟩ := hall i x hx
    have hlt : i < ts.length := by rw [← hn, ← hsz]; exact (Array.getElem?_eq_some_iff.1 hx).1
    rw [Nat.mod_eq_of_lt hlt] at hu
    exact ⟨u, hu, hc⟩
  refine ⟨cs, rfl, hsz.trans hn, hall', fun β => ?_⟩
  simp only [AVR]
  refine ⟨cs, rfl, cellsA_ok (P := P) (w := w) (r := r) (base := base) (by simp [← hn, ← hsz]) fun j x hx => ?_⟩
  have hx' : cs[j]? = some x := by simpa using hx
  exact ⟨by simpa using hx', hall' j x hx'⟩

theorem HI.start (w : World) : HI w (fun _ => False) (fun _ => none) [] [] w :=
  { os := rfl, tape := rfl, out := rfl, size := Nat.le_refl _, fr := fun _ _ _ => rfl, at_ := fun _ _ h => by simp [lk] at h, inj := fun _ _ _ _ _ _ h => by simp [lk] at h, own := fun _ _ _ h => by simp [lk] at h, glob := fun _ _ _ h => by cases h }

/-- What a call from outside gives that turns nothing that was there. -/
theorem top_calls {P : Program} {call : CallF} (gc : GoodCall P call) {f : FuncId} {fn : Func} {c : Code} (hf : P.funcs[f]? = some fn) (hb : fn.body = some c) (hne : (fn.name == "runtime.NumGoroutine") = false)
    {args : List AV} {avs : Array Value} {b : Bool} {h : AH} (hl : (call f args [] [] 1).leaf = some (.val (.bool b), h)) (hargs : ∀ β, AVRs β args avs.toList) (w : World) :
    Calls P f avs w fun e w' => e = .returned (.bool b) ∧ Below w.heap.size w w' := by
  rcases gc f args [] [] 1 _ hl w (fun _ => False) (fun _ => none) w avs (hargs _) (HI.start w) (Nat.le_refl _) (fun _ _ => rfl) with ⟨_, h2⟩ | ⟨x, w', h1, _⟩
  · refine h2.mono fun e w' ⟨x, e1, β', _, _, hv, hi⟩ => ?_
    subst e1
    simp only [AVR] at hv
    subst hv
    exact ⟨rfl, ⟨hi.os, hi.tape, hi.out, hi.size, fun k hk => hi.fr k hk id⟩⟩
  · have : (callFunc f avs).run P w = .ok (.enter f avs) w := by
      simp only [callFunc, Sem.run_bind, run_program, Result.andThen_ok, hf, hne, hb, Bool.false_eq_true, if_false, Option.isNone_some, Sem.run_pure]
    rw [this] at h1
    cases h1

end Go.Sx
