/-
  The abstract machine's data: plain values, values that name blocks of the frame's own, and what it means that a value of the model reads as one of them. No condition.
  The abstract machine: what it asks of a type, and what each operation does to a state of slots and own blocks. No condition.
  The abstract machine's states and what it means that a world of the model fits one; how a fit is kept when a block of the frame's own is made, written or given away. No condition.
-/
import Derived.Below
import Derived.Orders
import Derived.Laws.Cells
set_option linter.all false
namespace Go.Proofs.YtamjajacnfmgeaaGreat
open Go Go.RowKit
inductive V where
  | int (k : IntKind) (n : Int)
  | bool (b : Bool)
  | str (s : ByteArray)
  | sl (rows : List (List V))
  | ag (cs : List V)
  | tp (vs : List V)
  | fn (f : Nat) (cap : List V)
  | cp (cs : List V) (off : Nat)
  | np
  | yl (l : Nat)
  deriving Inhabited
inductive D where
  | v (x : V)
  | nil
  | ptr (n off : Nat)
  | osl (n k tot off len : Nat)
  | optr (n tot off : Nat)
  | omap (n : Nat)
  | ag (cs : List D)
  | tp (vs : List D)
  | fn (f : Nat) (cap : List D)
  | any
  deriving Inhabited
inductive RV (W : World) (ok : Nat → Prop) : V → Value → Prop
  | int (k : IntKind) (n : Int) : RV W ok (.int k n) (.int k n)
  | bool (b : Bool) : RV W ok (.bool b) (.bool b)
  | str (s : ByteArray) : RV W ok (.str s) (.string s)
  | np : RV W ok .np (.pointer none)
  | yl (l : Nat) : RV W ok (.yl l) (.func (.yield l) #[] #[])
  | ag (cs : List V) (vs : List Value) (hl : vs.length = cs.length) (h : ∀ (i : Nat) (x : V) (v : Value), cs[i]? = some x → vs[i]? = some v → RV W ok x v) : RV W ok (.ag cs) (.agg vs.toArray)
  | tp (cs : List V) (vs : List Value) (hl : vs.length = cs.length) (h : ∀ (i : Nat) (x : V) (v : Value), cs[i]? = some x → vs[i]? = some v → RV W ok x v) : RV W ok (.tp cs) (.tuple vs.toArray)
  | fn (f : Nat) (cs : List V) (vs : List Value) (hl : vs.length = cs.length) (h : ∀ (i : Nat) (x : V) (v : Value), cs[i]? = some x → vs[i]? = some v → RV W ok x v) : RV W ok (.fn f cs) (.func (.func f) #[] vs.toArray)
  | slE (a : Option Addr) (cap : Nat) : RV W ok (.sl []) (.slice a 0 cap)
  | sl (rows : List (List V)) (b o k cap : Nat) (hb : ok b) (hk : ∀ row ∈ rows, row.length = k) (hc : rows.length ≤ cap)
      (vs : Nat → Nat → Value) (hv : ∀ (i j : Nat) (row : List V) (x : V), rows[i]? = some row → row[j]? = some x → W.cell? ⟨b, o + (i * k + j), none⟩ = some (vs i j))
      (h : ∀ (i j : Nat) (row : List V) (x : V), rows[i]? = some row → row[j]? = some x → RV W ok x (vs i j)) :
      RV W ok (.sl rows) (.slice (some ⟨b, o, none⟩) rows.length cap)
  | cp (cs : List V) (b o off : Nat) (hb : ok b)
      (vs : Nat → Value) (hv : ∀ (j : Nat) (x : V), cs[j]? = some x → W.cell? ⟨b, o + j, none⟩ = some (vs j))
      (h : ∀ (j : Nat) (x : V), cs[j]? = some x → RV W ok x (vs j)) :
      RV W ok (.cp cs off) (.pointer (some ⟨b, o + off, none⟩))
theorem RV.mono {W W' : World} {ok ok' : Nat → Prop} (hok : ∀ b, ok b → ok' b ∧ W'.heap[b]? = W.heap[b]?) {x : V} {v : Value} (h : RV W ok x v) : RV W' ok' x v := by
 induction h with
 | int k n => exact .int k n
 | bool b => exact .bool b
 | str s => exact .str s
 | np => exact .np
 | yl l => exact .yl l
 | ag cs vs hl _ ih => exact .ag cs vs hl ih
 | tp cs vs hl _ ih => exact .tp cs vs hl ih
 | fn f cs vs hl _ ih => exact .fn f cs vs hl ih
 | slE a cap => exact .slE a cap
 | sl rows b o k cap hb hk hc vs hv _ ih =>
   exact .sl rows b o k cap (hok b hb).1 hk hc vs (fun i j row x hr hx => by rw [World.cell?_of_block (w := W) (hok b hb).2]; exact hv i j row x hr hx) ih
 | cp cs b o off hb vs hv _ ih =>
   exact .cp cs b o off (hok b hb).1 vs (fun j x hx => by rw [World.cell?_of_block (w := W) (hok b hb).2]; exact hv j x hx) ih
inductive Own where
  | cells (b : Nat)
  | sl (b k tot cs : Nat)
  | mp (b : Nat)
structure Env where
  ok : Nat → Prop
  own : Nat → Option Own
inductive RD (W : World) (E : Env) : D → Value → Prop
  | any (v : Value) : RD W E .any v
  | v (x : V) (v : Value) (h : RV W E.ok x v) : RD W E (.v x) v
  | nil : RD W E .nil (.slice none 0 0)
  | ptr (n off b : Nat) (h : E.own n = some (.cells b)) : RD W E (.ptr n off) (.pointer (some ⟨b, off, none⟩))
  | osl (n k tot off len b cs cap : Nat) (h : E.own n = some (.sl b k tot cs)) (ho : off + len ≤ tot) (hc : (off + cap) * k ≤ cs) (hlc : len ≤ cap) :
      RD W E (.osl n k tot off len) (.slice (some ⟨b, off * k, none⟩) len cap)
  | oslOld (n k tot off len b tot' cs : Nat) (a : Option Addr) (l c : Nat) (h : E.own n = some (.sl b k tot' cs)) (ht : tot < tot') : RD W E (.osl n k tot off len) (.slice a l c)
  | optr (n tot off b k cs : Nat) (h : E.own n = some (.sl b k tot cs)) : RD W E (.optr n tot off) (.pointer (some ⟨b, off, none⟩))
  | optrOld (n tot off b k tot' cs : Nat) (a : Addr) (h : E.own n = some (.sl b k tot' cs)) (ht : tot < tot') : RD W E (.optr n tot off) (.pointer (some a))
  | omap (n b : Nat) (h : E.own n = some (.mp b)) : RD W E (.omap n) (.map (some b))
  | ag (cs : List D) (vs : List Value) (hl : vs.length = cs.length) (h : ∀ (i : Nat) (x : D) (v : Value), cs[i]? = some x → vs[i]? = some v → RD W E x v) : RD W E (.ag cs) (.agg vs.toArray)
  | tp (cs : List D) (vs : List Value) (hl : vs.length = cs.length) (h : ∀ (i : Nat) (x : D) (v : Value), cs[i]? = some x → vs[i]? = some v → RD W E x v) : RD W E (.tp cs) (.tuple vs.toArray)
  | fn (f : Nat) (cs : List D) (vs : List Value) (hl : vs.length = cs.length) (h : ∀ (i : Nat) (x : D) (v : Value), cs[i]? = some x → vs[i]? = some v → RD W E x v) : RD W E (.fn f cs) (.func (.func f) #[] vs.toArray)
def Own.le : Own → Own → Prop
  | .cells b, .cells b' => b = b'
  | .mp b, .mp b' => b = b'
  | .sl b k tot cs, .sl b' k' tot' cs' => k = k' ∧ (tot < tot' ∨ (tot = tot' ∧ b = b' ∧ cs = cs'))
  | _, _ => False
theorem Own.le_refl (o : Own) : o.le o := by cases o <;> simp [Own.le]
structure Ext (W : World) (E : Env) (W' : World) (E' : Env) : Prop where
  ok : ∀ b, E.ok b → E'.ok b ∧ W'.heap[b]? = W.heap[b]?
  own : ∀ n i, E.own n = some i → ∃ i', E'.own n = some i' ∧ i.le i'
theorem RD.mono {W W' : World} {E E' : Env} (hx : Ext W E W' E') {x : D} {v : Value} (h : RD W E x v) : RD W' E' x v := by
 induction h with
 | any v => exact .any v
 | v x v h => exact .v x v (h.mono hx.ok)
 | nil => exact .nil
 | ptr n off b h =>
   obtain ⟨i', h', hl⟩ := hx.own n _ h
   cases i' <;> simp only [Own.le] at hl
   subst hl
   exact .ptr n off _ h'
 | osl n k tot off len b cs cap h ho hc hlc =>
   obtain ⟨i', h', hl⟩ := hx.own n _ h
   cases i' <;> simp only [Own.le] at hl
   obtain ⟨rfl, hl | ⟨rfl, rfl, rfl⟩⟩ := hl
   · exact .oslOld n _ tot off len _ _ _ _ _ _ h' hl
   · exact .osl n _ tot off len _ _ cap h' ho hc hlc
 | oslOld n k tot off len b tot' cs a l c h ht =>
   obtain ⟨i', h', hl⟩ := hx.own n _ h
   cases i' <;> simp only [Own.le] at hl
   obtain ⟨rfl, hl⟩ := hl
   exact .oslOld n _ tot off len _ _ _ _ _ _ h' (by omega)
 | optr n tot off b k cs h =>
   obtain ⟨i', h', hl⟩ := hx.own n _ h
   cases i' <;> simp only [Own.le] at hl
   obtain ⟨rfl, hl | ⟨rfl, rfl, rfl⟩⟩ := hl
   · exact .optrOld n tot off _ _ _ _ _ h' hl
   · exact .optr n tot off _ _ _ h'
 | optrOld n tot off b k tot' cs a h ht =>
   obtain ⟨i', h', hl⟩ := hx.own n _ h
   cases i' <;> simp only [Own.le] at hl
   obtain ⟨rfl, hl⟩ := hl
   exact .optrOld n tot off _ _ _ _ _ h' (by omega)
 | omap n b h =>
   obtain ⟨i', h', hl⟩ := hx.own n _ h
   cases i' <;> simp only [Own.le] at hl
   subst hl
   exact .omap n _ h'
 | ag cs vs hl _ ih => exact .ag cs vs hl ih
 | tp cs vs hl _ ih => exact .tp cs vs hl ih
 | fn f cs vs hl _ ih => exact .fn f cs vs hl ih
end Go.Proofs.YtamjajacnfmgeaaGreat
namespace Go.Proofs.YtamjajacnfmgeaaGreat
open Go Go.RowKit
inductive TD where
  | sc
  | bo
  | int (k : IntKind)
  | str
  | st (fs : List (Nat × Nat × Bool))
  | ar (n es : Nat) (ea : Bool)
  | sl (es eb : Nat) (ez : List D)
  | mp (str : Bool) (ez : D)
structure TI where
  d : TD
  size : Nat
  zero : List D
  eq : Bool
def TD.agg : TD → Bool
  | .st _ | .ar _ _ _ => true
  | _ => false
def constV : Value → D
  | .int k n => .v (.int k n)
  | .bool b => .v (.bool b)
  | .string s => .v (.str s)
  | .pointer none => .v .np
  | .slice none 0 0 => .nil
  | _ => .any
def constD : Value → D
  | .agg cs => .ag (cs.toList.map constV)
  | .tuple cs => if cs.isEmpty then .v (.tp []) else .any
  | v => constV v
def aggD : TypeDesc → Bool
  | .struct _ | .array _ _ => true
  | _ => false
def zeroCs (P : Program) (t : TypeId) : Option (List D) := do
  let i ← P.info? t
  let z ← i.zero
  pure (z.cells.toList.map constV)
def tdOf (P : Program) : TypeDesc → Option TD
  | .struct fs => (fs.toList.mapM fun (f : Field) => do
      let j ← P.info? f.type
      let v ← P.underlying f.type
      if j.size = 0 then none else some (f.offset, j.size, aggD v)).map TD.st
  | .array n e => do
    let j ← P.info? e
    let v ← P.underlying e
    some (TD.ar n j.size (aggD v))
  | .slice e => do
    let j ← P.info? e
    let ez ← zeroCs P e
    some (TD.sl j.size j.bytes ez)
  | .map k e => do
    let v ← P.underlying k
    let j ← P.info? e
    let z ← j.zero
    match v with
    | .string => some (TD.mp true (constD z))
    | .int .i64 => some (TD.mp false (constD z))
    | _ => none
  | .int k => some (.int k)
  | .string => some .str
  | .bool => some .bo
  | _ => some .sc
def infoOf (P : Program) (t : TypeId) : Option (TD × Nat × List D) := do
  let i ← P.info? t
  let u ← P.underlying t
  let z ← zeroCs P t
  let d ← tdOf P u
  pure (d, i.size, z)
def eqOkB (P : Program) (t : TypeId) (size : Nat) : Bool :=
  !P.eqGuardType P.depth t && !P.stoodInHeld t && match P.underlying t with
    | some (.struct fs) => fs.size == size && fs.toList.zipIdx.all fun (f, j) => f.name != "_" && f.offset == j && match P.underlying f.type with
      | some (.int .i64) => true
      | _ => false
    | _ => false
def TabOk (P : Program) (T : Nat → Option TI) : Prop := ∀ t ti, T t = some ti → infoOf P t = some (ti.d, ti.size, ti.zero) ∧ (ti.eq = true → eqOkB P t ti.size = true)
inductive O where
  | cells (cs : List D)
  | sl (k : Nat) (rows : List (List V))
  | mp (es : List (V × V))
structure Ent where
  obj : O
  frz : Bool
abbrev Store := Nat → Option Ent
structure St where
  n : Nat
  regs : Nat → Option D
  store : Store
def upd {α : Type} (f : Nat → Option α) (n : Nat) (x : α) : Nat → Option α := fun m => if m = n then some x else f m
def ev (r : Nat → Option D) : Operand → Option D
  | .tmp t => r t
  | .const v => some (constD v)
  | .func f => some (.fn f [])
  | .global _ => none
def V.cells : V → List V
  | .ag cs => cs
  | x => [x]
def D.cells : D → List D
  | .v (.ag cs) => cs.map .v
  | .ag cs => cs
  | d => [d]
def V.one : V → Bool
  | .ag _ | .tp _ => false
  | _ => true
def D.one : D → Bool
  | .v x => x.one
  | .ag _ | .tp _ | .any => false
  | _ => true
def optList {α β : Type} (f : α → Option β) : List α → Option (List β)
  | [] => some []
  | a :: r => match f a, optList f r with
    | some b, some bs => some (b :: bs)
    | _, _ => none
def pub (s : Store) : Nat → D → Option V
  | _, .v x => some x
  | _, .nil => some (.sl [])
  | 0, _ => none
  | n + 1, .ptr m off => match s m with
    | some ⟨.cells cs, _⟩ => (optList (pub s n) cs).map fun xs => .cp xs off
    | _ => none
  | _ + 1, .osl m k tot off len => match s m with
    | some ⟨.sl k' rows, _⟩ => if k' = k ∧ rows.length = tot then some (.sl ((rows.drop off).take len)) else none
    | _ => none
  | n + 1, .ag cs => (optList (pub s n) cs).map .ag
  | n + 1, .tp cs => (optList (pub s n) cs).map .tp
  | n + 1, .fn f cs => (optList (pub s n) cs).map (.fn f)
  | _, _ => none
def pubN (s : Store) : Nat → D → List Nat
  | 0, _ => []
  | n + 1, .ptr m _ => m :: (match s m with
    | some ⟨.cells cs, _⟩ => cs.flatMap (pubN s n)
    | _ => [])
  | _ + 1, .osl m _ _ _ _ => [m]
  | n + 1, .ag cs => cs.flatMap (pubN s n)
  | n + 1, .tp cs => cs.flatMap (pubN s n)
  | n + 1, .fn _ cs => cs.flatMap (pubN s n)
  | _, _ => []
def frz (s : Store) (ns : List Nat) : Store := fun m => if ns.contains m then (s m).map fun e => { e with frz := true } else s m
def pubD : Nat := 5
def partD (cs : List D) (off size : Nat) (agg : Bool) : Option D :=
  if agg then (if off + size ≤ cs.length then some (.ag ((cs.drop off).take size)) else none) else cs[off]?
def partV (cs : List V) (off size : Nat) (agg : Bool) : Option V :=
  if agg then (if off + size ≤ cs.length then some (.ag ((cs.drop off).take size)) else none) else cs[off]?
def splice {α : Type} (cs : List α) (off : Nat) (new : List α) : List α := cs.take off ++ new ++ cs.drop (off + new.length)
def fillD (place : Nat → Option (Nat × Nat)) : List D → List (Nat × D) → Option (List D)
  | cs, [] => some cs
  | cs, (i, d) :: rest => match place i with
    | none => none
    | some (off, size) => if d.cells.length = size ∧ off + size ≤ cs.length ∧ d.cells.all D.one then fillD place (splice cs off d.cells) rest else none
def idx : D → Option Nat
  | .v (.int _ i) => if 0 ≤ i then some i.toNat else none
  | _ => none
def rowsOf (s : Store) : D → Option (List (List V))
  | .v (.sl rows) => some rows
  | .nil => some []
  | .osl m k tot off len => match s m with
    | some ⟨.sl k' rows, _⟩ => if k' = k ∧ rows.length = tot then some ((rows.drop off).take len) else none
    | _ => none
  | _ => none
def mostRows : Nat := 2 ^ 20
def intOp (op : BinOp) (k : IntKind) (a b : Int) : Option V :=
  match op with
  | .add => some (.int k (k.wrap (a + b)))
  | .sub => some (.int k (k.wrap (a - b)))
  | .mul => some (.int k (k.wrap (a * b)))
  | .quo => if b = 0 then none else some (.int k (k.wrap (a.tdiv b)))
  | .rem => if b = 0 then none else some (.int k (a.tmod b))
  | .eql => some (.bool (a == b))
  | .neq => some (.bool (a != b))
  | .lss => some (.bool (a < b))
  | .leq => some (.bool (a ≤ b))
  | .gtr => some (.bool (a > b))
  | .geq => some (.bool (a ≥ b))
  | _ => none
def intsOf : List D → Option (List Int)
  | [] => some []
  | .v (.int .i64 n) :: r => (intsOf r).map (n :: ·)
  | _ => none
def D.isAg : D → Bool
  | .v (.ag _) | .ag _ => true
  | _ => false
def binEval (T : Nat → Option TI) (op : BinOp) (t : Nat) (x y : D) : Option V :=
  match x, y with
  | .v (.int k a), .v (.int k' b) => if k = k' then intOp op k a b else none
  | .v (.str a), .v (.str b) => match op with
    | .eql => some (.bool (a.toList == b.toList))
    | .neq => some (.bool !(a.toList == b.toList))
    | _ => none
  | .v (.bool a), .v (.bool b) => match T t, op with
    | some ⟨.bo, _, _, _⟩, .eql => some (.bool (a == b))
    | some ⟨.bo, _, _, _⟩, .neq => some (.bool !(a == b))
    | _, _ => none
  | x, y => match T t, intsOf x.cells, intsOf y.cells with
    | some ⟨.st _, size, _, true⟩, some xs, some ys =>
      if xs.length = size ∧ ys.length = size ∧ x.isAg = true ∧ y.isAg = true then match op with
        | .eql => some (.bool (xs == ys))
        | .neq => some (.bool !(xs == ys))
        | _ => none
      else none
    | _, _, _ => none
def keyEq : V → V → Option Bool
  | .int k a, .int k' b => if k = k' then some (a == b) else none
  | .str a, .str b => some (a == b)
  | _, _ => none
def findE (k : V) : List (V × V) → Nat → Option (Option (Nat × V))
  | [], _ => some none
  | e :: es, i => match keyEq k e.1 with
    | some true => some (some (i, e.2))
    | some false => findE k es (i + 1)
    | none => none
def keyOk : Bool → V → Bool
  | true, .str _ => true
  | false, .int .i64 _ => true
  | _, _ => false
def foldFrom (gt : Bool) (k : IntKind) (a : Int) : List D → Option V
  | [] => some (.int k a)
  | .v (.int k' b) :: r => if k = k' then foldFrom gt k (if gt then (if b > a then b else a) else (if b < a then b else a)) r else none
  | _ => none
def foldMax (gt : Bool) : List D → Option V
  | .v (.int k a) :: r => foldFrom gt k a r
  | _ => none
def lenOf (s : Store) (T : Nat → Option TI) (t : Nat) (d : D) : Option Int :=
  match T t with
  | some ⟨.ar n _ _, _, _, _⟩ => some n
  | some ⟨.sl _ _ _, _, _, _⟩ => match d with
    | .v (.sl rows) => some rows.length
    | .nil => some 0
    | .osl m _ tot _ len => match s m with
      | some ⟨.sl _ rows, _⟩ => if rows.length = tot then some len else none
      | _ => none
    | _ => none
  | some ⟨.str, _, _, _⟩ => match d with
    | .v (.str b) => some b.size
    | _ => none
  | _ => none
def loadD (s : Store) (size : Nat) (agg : Bool) : D → Option D
  | .v (.cp cs off) => (partV cs off size agg).map .v
  | .ptr n off => match s n with
    | some ⟨.cells cs, _⟩ => partD cs off size agg
    | _ => none
  | .optr n tot off => match s n with
    | some ⟨.sl k rows, _⟩ => if rows.length = tot ∧ 0 < k ∧ off % k + size ≤ k then match rows[off / k]? with
        | some row => (partV row (off % k) size agg).map .v
        | none => none
      else none
    | _ => none
  | _ => none
def storeD (s : Store) (size : Nat) (x : D) : D → Option Store
  | .ptr n off => match s n with
    | some ⟨.cells cs, false⟩ => if x.cells.length = size ∧ off + size ≤ cs.length ∧ x.cells.all D.one then some (upd s n ⟨.cells (splice cs off x.cells), false⟩) else none
    | _ => none
  | .optr n tot off => match s n, x with
    | some ⟨.sl k rows, false⟩, .v y =>
      if rows.length = tot ∧ 0 < k ∧ off % k + size ≤ k ∧ y.cells.length = size ∧ y.cells.all V.one then match rows[off / k]? with
        | some row => some (upd s n ⟨.sl k (rows.set (off / k) (splice row (off % k) y.cells)), false⟩)
        | none => none
      else none
    | _, _ => none
  | _ => none
def addrAdd (c : Nat) : D → Option D
  | .v (.cp cs off) => some (.v (.cp cs (off + c)))
  | .ptr n off => some (.ptr n (off + c))
  | .optr n tot off => some (.optr n tot (off + c))
  | _ => none
def litRows (s : Store) (es : Nat) : Nat → List (Nat × D) → Option (List (List V))
  | _, [] => some []
  | i, (j, d) :: r => if i = j then match pub s pubD d with
      | some x => if x.cells.length = es ∧ x.cells.all V.one then (litRows s es (i + 1) r).map (x.cells :: ·) else none
      | none => none
    else none
def ownNew (s : Store) (dst : Option Tmp) (o : O) : Option (Nat × Store) :=
  match dst with
  | some n => if (s n).isNone then some (n, upd s n ⟨o, false⟩) else none
  | none => none
def appendD (s : Store) (dst : Option Tmp) (es eb : Nat) (x : D) (new : List (List V)) : Option (D × Store) :=
  match new with
  | [] => (rowsOf s x).map fun _ => (x, s)
  | _ :: _ => match x with
    | .nil => if new.length ≤ mostRows ∧ eb ≤ mostRows then (ownNew s dst (.sl es new)).map fun (n, s') => (.osl n es new.length 0 new.length, s') else none
    | .osl n k tot 0 len => match s n with
      | some ⟨.sl k' rows, false⟩ =>
        if k' = k ∧ k = es ∧ rows.length = tot ∧ len = tot ∧ tot + new.length ≤ mostRows ∧ eb ≤ mostRows then
          some (.osl n k (tot + new.length) 0 (tot + new.length), upd s n ⟨.sl k (rows ++ new), false⟩) else none
      | _ => none
    | _ => none
def builtinD (T : Nat → Option TI) (s : Store) (dst : Option Tmp) (b : Builtin) (ts : Array TypeId) (args : List D) : Option (D × Store) :=
  match b, ts[0]?, args with
  | .len, some t, [x] => match lenOf s T t x with
    | some n => some (.v (.int .i64 n), s)
    | none => none
  | .max, _, xs => (foldMax true xs).map fun x => (.v x, s)
  | .min, _, xs => (foldMax false xs).map fun x => (.v x, s)
  | .append, some t, [x, y] => match T t, ts[1]? with
    | some ⟨.sl es eb ez, _, _, _⟩, some u => match (if u = t ∧ ts.size = 2 then some () else none), rowsOf s y with
      | some _, some new => if 0 < es ∧ ez.length = es ∧ new.all (fun r => r.length == es && r.all V.one) then appendD s dst es eb x new else none
      | _, _ => none
    | _, _ => none
  | _, _, _ => none
def rowFits (es : Nat) : Option (List V) → Prop
  | some row => row.length = es
  | none => True
instance (es : Nat) (o : Option (List V)) : Decidable (rowFits es o) := by
  cases o <;> simp only [rowFits] <;> infer_instance
def opEval (T : Nat → Option TI) (s : Store) (dst : Option Tmp) (r : Operand → Option D) : Op → Option (D × Store)
  | .move x | .assign x => (r x).map fun d => (d, s)
  | .pick c a b => match r c with
    | some (.v (.bool t)) => (if t then r a else r b).map fun d => (d, s)
    | _ => none
  | .alloc t => match T t with
    | some ti => (ownNew s dst (.cells ti.zero)).map fun (n, s') => (.ptr n 0, s')
    | none => none
  | .box _ x => match r x with
    | some d => if d.cells.all D.one then (ownNew s dst (.cells d.cells)).map fun (n, s') => (.ptr n 0, s') else none
    | none => none
  | .build t parts => match T t, optList (fun (p : Nat × Operand) => (r p.2).map fun d => (p.1, d)) parts.toList with
    | some ⟨.st fs, _, zero, _⟩, some ps => (fillD (fun i => (fs[i]?).map fun f => (f.1, f.2.1)) zero ps).map fun cs => (.ag cs, s)
    | some ⟨.ar n es _, _, zero, _⟩, some ps => (fillD (fun i => some (i * es, es)) zero ps).map fun cs => (.ag cs, s)
    | _, _ => none
  | .buildSlice t len parts => match T t, optList (fun (p : Nat × Operand) => (r p.2).map fun d => (p.1, d)) parts.toList with
    | some ⟨.sl es _ ez, _, _, _⟩, some ps =>
      if ps.length = len ∧ 0 < len ∧ 0 < es ∧ len * es ≤ 2 ^ 24 ∧ ez.length = es then match litRows s es 0 ps with
        | some rows => match ownNew (frz s (ps.flatMap fun p => pubN s pubD p.2)) dst (.sl es rows) with
          | some (n, s') => some (.osl n es len 0 len, s')
          | none => none
        | none => none
      else none
    | _, _ => none
  | .load t a => match T t, r a with
    | some ti, some d => (loadD s ti.size ti.d.agg d).map fun d => (d, s)
    | _, _ => none
  | .store t a x => match T t, r a, r x with
    | some ti, some d, some y => (storeD s ti.size y d).map fun s' => (.any, s')
    | _, _, _ => none
  | .nilCheck x => match r x with
    | some (.ptr n off) => some (.ptr n off, s)
    | some (.v (.cp cs off)) => some (.v (.cp cs off), s)
    | _ => none
  | .binOp op t x y _ => match r x, r y with
    | some a, some b => (binEval T op t a b).map fun x => (.v x, s)
    | _, _ => none
  | .unOp op _ x => match op, r x with
    | .not, some (.v (.bool b)) => some (.v (.bool !b), s)
    | .neg, some (.v (.int k n)) => some (.v (.int k (k.wrap (0 - n))), s)
    | _, _ => none
  | .convert src t x => match T src, T t, r x with
    | some ⟨.int _, _, _, _⟩, some ⟨.int k, _, _, _⟩, some (.v (.int _ n)) => some (.v (.int k (k.wrap n)), s)
    | _, _, _ => none
  | .makeFunc fn first caps => match fn with
    | .func f => if first.isEmpty then (optList r caps.toList).map fun ds => (.fn f ds, s) else none
    | _ => none
  | .makeMap _ hint => if hint.isNone then (ownNew s dst (.mp [])).map fun (n, s') => (.omap n, s') else none
  | .makeSlice t l c => match T t, r l, r c with
    | some ⟨.sl es eb ez, _, _, _⟩, some (.v (.int .i64 n)), some (.v (.int .i64 m)) =>
      if n = m ∧ 0 < n ∧ n.toNat ≤ mostRows ∧ eb ≤ mostRows ∧ ez.length = es ∧ 0 < es then match pub s pubD (.ag ez) with
        | some x => (ownNew s dst (.sl es (List.replicate n.toNat x.cells))).map fun (k, s') => (.osl k es n.toNat 0 n.toNat, s')
        | none => none
      else none
    | _, _, _ => none
  | .slice t x lo hi mx => if mx.isNone then match T t, r x with
    | some ⟨.sl es _ _, _, _, _⟩, some (.v (.sl rows)) =>
      match (match lo with | none => some 0 | some l => (r l).bind idx), (match hi with | none => some rows.length | some h => (r h).bind idx) with
      | some l, some h => if l ≤ h ∧ h ≤ rows.length ∧ rowFits es (rows[l]?) then some (.v (.sl ((rows.drop l).take (h - l))), s) else none
      | _, _ => none
    | _, _ => none
    else none
  | .fieldAddr t x f => match T t, r x with
    | some ⟨.st fs, _, _, _⟩, some d => match fs[f]? with
      | some g => (addrAdd g.1 d).map fun d => (d, s)
      | none => none
    | _, _ => none
  | .field t x f => match T t, r x with
    | some ⟨.st fs, _, _, _⟩, some d => match fs[f]?, d with
      | some g, .v (.ag cs) => (partV cs g.1 g.2.1 g.2.2).map fun x => (.v x, s)
      | some g, .ag cs => (partD cs g.1 g.2.1 g.2.2).map fun d => (d, s)
      | _, _ => none
    | _, _ => none
  | .indexAddr t x i => match T t, r x, (r i).bind idx with
    | some ⟨.sl es _ _, _, _, _⟩, some (.v (.sl rows)), some i => match rows[i]? with
      | some row => if row.length = es then some (.v (.cp row 0), s) else none
      | none => none
    | some ⟨.sl es _ _, _, _, _⟩, some (.osl n k tot off len), some i => match s n with
      | some ⟨.sl k' rows, _⟩ => if k' = k ∧ rows.length = tot ∧ i < len ∧ k = es then some (.optr n tot ((off + i) * k), s) else none
      | _ => none
    | some ⟨.ar n es _, _, _, _⟩, some d, some i => if i < n then (addrAdd (i * es) d).map fun d => (d, s) else none
    | _, _, _ => none
  | .index t x i => match T t, r x, (r i).bind idx with
    | some ⟨.ar n es ea, _, _, _⟩, some (.v (.ag cs)), some i => if i < n then (partV cs (i * es) es ea).map fun x => (.v x, s) else none
    | some ⟨.ar n es ea, _, _, _⟩, some (.ag cs), some i => if i < n then (partD cs (i * es) es ea).map fun d => (d, s) else none
    | some ⟨.str, _, _, _⟩, some (.v (.str b)), some i => (b[i]?).map fun c => (.v (.int .u8 c.toNat), s)
    | _, _, _ => none
  | .lookup t m k ok => match T t, r m, r k with
    | some ⟨.mp st ez, _, _, _⟩, some (.omap n), some (.v key) => match s n with
      | some ⟨.mp es, _⟩ => if keyOk st key then match findE key es 0 with
          | some (some (_, x)) => some (if ok then .tp [.v x, .v (.bool true)] else .v x, s)
          | some none => some (if ok then .tp [ez, .v (.bool false)] else ez, s)
          | none => none
        else none
      | _ => none
    | _, _, _ => none
  | .mapUpdate t m k x => match T t, r m, r k, r x with
    | some ⟨.mp st _, _, _, _⟩, some (.omap n), some (.v key), some (.v y) => match s n with
      | some ⟨.mp es, false⟩ => if keyOk st key then match findE key es 0 with
          | some (some (i, _)) => some (.any, upd s n ⟨.mp (es.set i (key, y)), false⟩)
          | some none => some (.any, upd s n ⟨.mp (es ++ [(key, y)]), false⟩)
          | none => none
        else none
      | _ => none
    | _, _, _, _ => none
  | .extract x i => match r x with
    | some (.v (.tp vs)) => (vs[i]?).map fun x => (.v x, s)
    | some (.tp ds) => (ds[i]?).map fun d => (d, s)
    | _ => none
  | .call c => match c.callee, optList r c.args.toList with
    | .builtin b, some ds => builtinD T s dst b c.argTypes ds
    | _, _ => none
  | _ => none
end Go.Proofs.YtamjajacnfmgeaaGreat
namespace Go.Proofs.YtamjajacnfmgeaaGreat
open Go Go.RowKit
def Own.block : Own → Nat
  | .cells b | .mp b => b
  | .sl b _ _ _ => b
inductive EntR (W : World) (E : Env) : Own → Ent → Prop
  | cells (b : Nat) (ds : List D) (f : Bool) (vs : List Value) (t : TypeId) (hb : W.heap[b]? = some (.cells vs.toArray t (0, 0))) (hl : vs.length = ds.length)
      (h : ∀ (i : Nat) (d : D) (v : Value), ds[i]? = some d → vs[i]? = some v → RD W E d v) : EntR W E (.cells b) ⟨.cells ds, f⟩
  | sl (b k cs : Nat) (rows : List (List V)) (f : Bool) (vs : List Value) (t : TypeId) (hb : W.heap[b]? = some (.cells vs.toArray t (0, 0))) (hl : vs.length = cs)
      (hk : ∀ row ∈ rows, row.length = k) (hn : rows.length * k ≤ cs)
      (h : ∀ (i j : Nat) (row : List V) (x : V) (v : Value), rows[i]? = some row → row[j]? = some x → vs[i * k + j]? = some v → RV W E.ok x v) : EntR W E (.sl b k rows.length cs) ⟨.sl k rows, f⟩
  | mp (b : Nat) (es : List (V × V)) (f : Bool) (ents : List MapEntry) (clock : Nat) (hb : W.heap[b]? = some (.map ents.toArray clock)) (hl : ents.length = es.length)
      (h : ∀ (i : Nat) (x : V × V) (e : MapEntry), es[i]? = some x → ents[i]? = some e → RV W E.ok x.1 e.key ∧ RV W E.ok x.2 e.val) : EntR W E (.mp b) ⟨.mp es, f⟩
structure Fr where
  F : Nat → Prop
  G : Nat → Prop
  W0 : World
structure Keep (Φ : Fr) (w : World) : Prop where
  os : w.os = Φ.W0.os
  tape : w.tape = Φ.W0.tape
  output : w.output = Φ.W0.output
  size : Φ.W0.heap.size ≤ w.heap.size
  block : ∀ k, k < Φ.W0.heap.size → ¬Φ.G k → w.heap[k]? = Φ.W0.heap[k]?
def okOf (Φ : Fr) (W : World) (own : Nat → Option Own) (s : Store) (b : Nat) : Prop :=
  b < W.heap.size ∧ ¬Φ.F b ∧ ∀ n e i, s n = some e → e.frz = false → own n = some i → i.block ≠ b
structure SR (Φ : Fr) (W : World) (E : Env) (s : Store) : Prop where
  keep : Keep Φ W
  none : ∀ n, s n = none → E.own n = none
  ent : ∀ n e, s n = some e → ∃ i, E.own n = some i ∧ EntR W E i e
  base : ∀ n e i, s n = some e → E.own n = some i → Φ.W0.heap.size ≤ i.block ∨ Φ.G i.block
  okd : ∀ b, E.ok b ↔ okOf Φ W E.own s b
  inj : ∀ n m e e' i i', n ≠ m → s n = some e → s m = some e' → e.frz = false → E.own n = some i → E.own m = some i' → i.block ≠ i'.block
  fb : ∀ b, Φ.F b → b < Φ.W0.heap.size ∧ ¬Φ.G b
theorem EntR.block_lt {W : World} {E : Env} {i : Own} {e : Ent} (h : EntR W E i e) : i.block < W.heap.size := by
 have lt : ∀ {b : Nat} {o : Obj}, W.heap[b]? = some o → b < W.heap.size := fun {b o} hb => by
   rcases Nat.lt_or_ge b W.heap.size with h | h
   · exact h
   · rw [Array.getElem?_eq_none h] at hb; cases hb
 cases h with
 | cells b ds f vs t hb => exact lt hb
 | sl b k cs rows f vs t hb => exact lt hb
 | mp b es f ents clock hb => exact lt hb
theorem EntR.mono {W W' : World} {E E' : Env} {i : Own} {e : Ent} (hx : Ext W E W' E') (hb' : W'.heap[i.block]? = W.heap[i.block]?) (h : EntR W E i e) : EntR W' E' i e := by
 cases h with
 | cells b ds f vs t hb hl h => exact .cells b ds f vs t (hb'.trans hb) hl fun i d v hd hv => (h i d v hd hv).mono hx
 | sl b k cs rows f vs t hb hl hk hn h => exact .sl b k cs rows f vs t (hb'.trans hb) hl hk hn fun i j row x v hr hx' hv => (h i j row x v hr hx' hv).mono hx.ok
 | mp b es f ents clock hb hl h => exact .mp b es f ents clock (hb'.trans hb) hl fun i x e hx' he => ⟨(h i x e hx' he).1.mono hx.ok, (h i x e hx' he).2.mono hx.ok⟩
theorem upd_same {α : Type} (f : Nat → Option α) (n : Nat) (x : α) : upd f n x n = some x := by simp [upd]
theorem upd_ne {α : Type} (f : Nat → Option α) {n m : Nat} (x : α) (h : m ≠ n) : upd f n x m = f m := by simp [upd, h]
structure Turn (Φ : Fr) (W W' : World) (E : Env) (s : Store) (n : Nat) (i' : Own) : Prop where
  os : W'.os = W.os
  tape : W'.tape = W.tape
  output : W'.output = W.output
  rest : ∀ b, b < W.heap.size → b ≠ i'.block → W'.heap[b]? = W.heap[b]?
  size : W.heap.size ≤ W'.heap.size
  lt : i'.block < W'.heap.size
  base : Φ.W0.heap.size ≤ i'.block ∨ Φ.G i'.block
  old : (s n = none ∧ W.heap.size ≤ i'.block) ∨ (∃ e i, s n = some e ∧ e.frz = false ∧ E.own n = some i ∧ i.le i' ∧ (i'.block = i.block ∨ W.heap.size ≤ i'.block))
def envOf (Φ : Fr) (W' : World) (E : Env) (s' : Store) (n : Nat) (i' : Own) : Env := ⟨okOf Φ W' (upd E.own n i') s', upd E.own n i'⟩
theorem Turn.ext {Φ : Fr} {W W' : World} {E : Env} {s : Store} {n : Nat} {i' : Own} {o : O} (hs : SR Φ W E s) (ht : Turn Φ W W' E s n i') :
    Ext W E W' (envOf Φ W' E (upd s n ⟨o, false⟩) n i') := by
 have hne : ∀ b, E.ok b → b ≠ i'.block := by
   intro b hb he
   obtain ⟨h1, h2, h3⟩ := (hs.okd b).1 hb
   rcases ht.old with ⟨_, h⟩ | ⟨e, i, he1, he2, he3, _, h | h⟩
   · omega
   · exact h3 n e i he1 he2 he3 (by omega)
   · omega
 refine ⟨fun b hb => ⟨?_, ht.rest b ((hs.okd b).1 hb).1 (hne b hb)⟩, fun m i hi => ?_⟩
 · obtain ⟨h1, h2, h3⟩ := (hs.okd b).1 hb
   refine ⟨by have := ht.size; omega, h2, fun m e i hm hf hi => ?_⟩
   by_cases hmn : m = n
   · subst hmn
     simp only [envOf, upd_same] at hi
     cases hi
     exact fun h => hne b hb h.symm
   · rw [upd_ne _ _ hmn] at hm
     simp only [envOf, upd_ne _ _ hmn] at hi
     exact h3 m e i hm hf hi
 · by_cases hmn : m = n
   · subst hmn
     rcases ht.old with ⟨h, _⟩ | ⟨e, j, he1, he2, he3, hle, _⟩
     · rw [hs.none _ h] at hi; cases hi
     · rw [he3] at hi; cases hi
       exact ⟨i', by simp [envOf, upd_same], hle⟩
   · exact ⟨i, by simp [envOf, upd_ne _ _ hmn, hi], Own.le_refl i⟩
theorem Turn.sr {Φ : Fr} {W W' : World} {E : Env} {s : Store} {n : Nat} {i' : Own} {o : O} (hs : SR Φ W E s) (ht : Turn Φ W W' E s n i')
    (he : EntR W' (envOf Φ W' E (upd s n ⟨o, false⟩) n i') i' ⟨o, false⟩) : SR Φ W' (envOf Φ W' E (upd s n ⟨o, false⟩) n i') (upd s n ⟨o, false⟩) := by
 have hx := ht.ext (o := o) hs
 have hne : ∀ m e i, m ≠ n → s m = some e → E.own m = some i → i.block ≠ i'.block := by
   intro m e i hmn hm hi
   obtain ⟨i2, hi2, hr⟩ := hs.ent m e hm
   rw [hi] at hi2; cases hi2
   have := hr.block_lt
   rcases ht.old with ⟨_, h⟩ | ⟨e2, i2, h1, h2, h3, _, h | h⟩
   · omega
   · have := hs.inj n m e2 e i2 i (Ne.symm hmn) h1 hm h2 h3 hi
     omega
   · omega
 have hkeep : Keep Φ W' := ⟨ht.os.trans hs.keep.os, ht.tape.trans hs.keep.tape, ht.output.trans hs.keep.output, Nat.le_trans hs.keep.size ht.size, fun k hk hg => by
   rw [ht.rest k (by have := hs.keep.size; omega) (fun h => ht.base.elim (fun h' => by omega) (fun h' => hg (h ▸ h')))]
   exact hs.keep.block k hk hg⟩
 refine ⟨hkeep, fun m hm => ?_, fun m e hm => ?_, fun m e i hm hi => ?_, fun b => Iff.rfl, ?_, hs.fb⟩
 · by_cases hmn : m = n
   · subst hmn; rw [upd_same] at hm; cases hm
   · rw [upd_ne _ _ hmn] at hm; simp only [envOf, upd_ne _ _ hmn]; exact hs.none m hm
 · by_cases hmn : m = n
   · subst hmn; rw [upd_same] at hm; cases hm
     exact ⟨i', by simp [envOf, upd_same], he⟩
   · rw [upd_ne _ _ hmn] at hm
     obtain ⟨i, hi, hr⟩ := hs.ent m e hm
     exact ⟨i, by simp [envOf, upd_ne _ _ hmn, hi], hr.mono hx (ht.rest _ hr.block_lt (hne m e i hmn hm hi))⟩
 · by_cases hmn : m = n
   · subst hmn
     simp only [envOf, upd_same] at hi
     cases hi; exact ht.base
   · rw [upd_ne _ _ hmn] at hm
     simp only [envOf, upd_ne _ _ hmn] at hi
     exact hs.base m e i hm hi
 · intro m1 m2 e1 e2 i1 i2 hm12 h1 h2 hf hi1 hi2
   by_cases hm1 : m1 = n
   · subst hm1
     simp only [envOf, upd_same] at hi1; cases hi1
     rw [upd_ne _ _ (Ne.symm hm12)] at h2
     simp only [envOf, upd_ne _ _ (Ne.symm hm12)] at hi2
     exact Ne.symm (hne m2 e2 i2 (Ne.symm hm12) h2 hi2)
   · rw [upd_ne _ _ hm1] at h1
     simp only [envOf, upd_ne _ _ hm1] at hi1
     by_cases hm2 : m2 = n
     · subst hm2
       simp only [envOf, upd_same] at hi2; cases hi2
       exact hne m1 e1 i1 hm1 h1 hi1
     · rw [upd_ne _ _ hm2] at h2
       simp only [envOf, upd_ne _ _ hm2] at hi2
       exact hs.inj m1 m2 e1 e2 i1 i2 hm12 h1 h2 hf hi1 hi2
theorem frz_some {s : Store} {ns : List Nat} {n : Nat} {e : Ent} (h : frz s ns n = some e) : ∃ e0, s n = some e0 ∧ e.obj = e0.obj ∧ (e.frz = false → e0.frz = false ∧ n ∉ ns) := by
 unfold frz at h
 split at h
 · rename_i hc
   cases hn : s n with
   | none => rw [hn] at h; cases h
   | some e0 =>
     rw [hn] at h
     simp only [Option.map_some, Option.some.injEq] at h
     subst h
     exact ⟨e0, rfl, rfl, fun h => by cases h⟩
 · rename_i hc
   exact ⟨e, h, rfl, fun hf => ⟨hf, by simpa using hc⟩⟩
theorem frz_none {s : Store} {ns : List Nat} {n : Nat} (h : frz s ns n = none) : s n = none := by
 unfold frz at h
 split at h
 · cases hn : s n with
   | none => rfl
   | some e0 => rw [hn] at h; cases h
 · exact h
def envFrz (Φ : Fr) (W : World) (E : Env) (s : Store) (ns : List Nat) : Env := ⟨okOf Φ W E.own (frz s ns), E.own⟩
theorem SR.frz_ext {Φ : Fr} {W : World} {E : Env} {s : Store} (hs : SR Φ W E s) (ns : List Nat) : Ext W E W (envFrz Φ W E s ns) := by
 refine ⟨fun b hb => ⟨?_, rfl⟩, fun n i hi => ⟨i, hi, Own.le_refl i⟩⟩
 obtain ⟨h1, h2, h3⟩ := (hs.okd b).1 hb
 refine ⟨h1, h2, fun n e i hn hf hi => ?_⟩
 obtain ⟨e0, h0, _, h⟩ := frz_some hn
 exact h3 n e0 i h0 (h hf).1 hi
theorem EntR.refrz {W : World} {E : Env} {i : Own} {e e' : Ent} (h : EntR W E i e) (ho : e'.obj = e.obj) : EntR W E i e' := by
 obtain ⟨o, f⟩ := e
 obtain ⟨o', f'⟩ := e'
 simp only at ho
 subst ho
 cases h with
 | cells b ds f vs t hb hl h => exact .cells b ds f' vs t hb hl h
 | sl b k cs rows f vs t hb hl hk hn h => exact .sl b k cs rows f' vs t hb hl hk hn h
 | mp b es f ents clock hb hl h => exact .mp b es f' ents clock hb hl h
theorem SR.frz_sr {Φ : Fr} {W : World} {E : Env} {s : Store} (hs : SR Φ W E s) (ns : List Nat) : SR Φ W (envFrz Φ W E s ns) (frz s ns) := by
 have hx := hs.frz_ext ns
 refine ⟨hs.keep, fun n hn => hs.none n (frz_none hn), fun n e hn => ?_, fun n e i hn hi => ?_, fun b => Iff.rfl, ?_, hs.fb⟩
 · obtain ⟨e0, h0, ho, _⟩ := frz_some hn
   obtain ⟨i, hi, hr⟩ := hs.ent n e0 h0
   exact ⟨i, hi, (hr.mono hx rfl).refrz ho⟩
 · obtain ⟨e0, h0, ho, h⟩ := frz_some hn
   exact hs.base n e0 i h0 hi
 · intro n m e e' i i' hnm hn hm hf hi hi'
   obtain ⟨e0, h0, _, h⟩ := frz_some hn
   obtain ⟨e1, h1, _, _⟩ := frz_some hm
   exact hs.inj n m e0 e1 i i' hnm h0 h1 (h hf).1 hi hi'
theorem Ext.same_heap {W W' : World} {E : Env} (hh : W'.heap = W.heap) : Ext W E W' E :=
  ⟨fun b hb => ⟨hb, by rw [hh]⟩, fun n i hi => ⟨i, hi, Own.le_refl i⟩⟩
theorem SR.same_heap {Φ : Fr} {W W' : World} {E : Env} {s : Store} (hs : SR Φ W E s) (hh : W'.heap = W.heap) (ho : W'.os = W.os) (ht : W'.tape = W.tape) (hu : W'.output = W.output) : SR Φ W' E s := by
 refine ⟨⟨ho.trans hs.keep.os, ht.trans hs.keep.tape, hu.trans hs.keep.output, by rw [hh]; exact hs.keep.size, fun k hk hg => by rw [hh]; exact hs.keep.block k hk hg⟩, hs.none, fun n e hn => ?_, hs.base, fun b => ?_, hs.inj, hs.fb⟩
 · obtain ⟨i, hi, hr⟩ := hs.ent n e hn
   exact ⟨i, hi, hr.mono (Ext.same_heap hh) (by rw [hh])⟩
 · rw [hs.okd b]; unfold okOf; rw [hh]
theorem Ext.trans {W W' W'' : World} {E E' E'' : Env} (h : Ext W E W' E') (h' : Ext W' E' W'' E'') : Ext W E W'' E'' := by
 refine ⟨fun b hb => ?_, fun n i hi => ?_⟩
 · obtain ⟨h1, h2⟩ := h.ok b hb
   obtain ⟨h3, h4⟩ := h'.ok b h1
   exact ⟨h3, h4.trans h2⟩
 · obtain ⟨i1, h1, hl⟩ := h.own n i hi
   obtain ⟨i2, h2, hl'⟩ := h'.own n i1 h1
   refine ⟨i2, h2, ?_⟩
   cases i <;> cases i1 <;> cases i2 <;> simp only [Own.le] at hl hl' ⊢
   · exact hl.trans hl'
   · obtain ⟨rfl, hl⟩ := hl
     obtain ⟨rfl, hl'⟩ := hl'
     refine ⟨rfl, ?_⟩
     rcases hl with hl | ⟨rfl, rfl, rfl⟩
     · rcases hl' with hl' | ⟨rfl, rfl, rfl⟩
       · exact .inl (by omega)
       · exact .inl hl
     · exact hl'
   · exact hl.trans hl'
theorem Ext.refl (W : World) (E : Env) : Ext W E W E := ⟨fun b hb => ⟨hb, rfl⟩, fun n i hi => ⟨i, hi, Own.le_refl i⟩⟩
end Go.Proofs.YtamjajacnfmgeaaGreat
