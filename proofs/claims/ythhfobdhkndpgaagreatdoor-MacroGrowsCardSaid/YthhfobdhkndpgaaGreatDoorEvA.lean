import Derived.Calls
import Derived.Control
import Derived.Laws.Append
import Derived.Laws.AppendOwn
import Derived.Laws.BytesString
import Derived.Laws.Cells
import Derived.Laws.CopyRow
import Derived.Laws.MakeOwn
import Derived.Laws.Sem
import Derived.Laws.Slices
import Derived.Laws.Strings
import Derived.Laws.StructEq
import Derived.Laws.Tables
import Derived.Laws.World
import GoSem.Step
set_option linter.all false
section
/- The abstract evaluator: values, an abstract heap, and what each operation does to them, in the style of continuations. -/
noncomputable section
namespace Go.Ev
/-- trees by number -/
inductive T5 (α : Type) where
  | nil
  | node (v : Option α) (a b c d : T5 α)
def T5.get {α : Type} (t : T5 α) : Nat → Option α :=
  T5.rec (motive := fun _ => Nat → Option α) (fun _ => none)
    (fun v _ _ _ _ ga gb gc gd n => Nat.rec (motive := fun _ => Option α) v
      (fun m _ => Nat.rec (motive := fun _ => Nat → Option α) ga (fun k _ => Nat.rec (motive := fun _ => Nat → Option α) gb (fun k _ => Nat.rec (motive := fun _ => Nat → Option α) gc (fun _ _ => gd) k) k) (Nat.mod m 4) (Nat.div m 4)) n) t
def T5.setF {α : Type} (a : α) (f : Nat) : Nat → T5 α → T5 α :=
  Nat.rec (motive := fun _ => Nat → T5 α → T5 α) (fun _ t => t)
    (fun _ ih n t => T5.rec (motive := fun _ => T5 α)
      (Nat.rec (motive := fun _ => T5 α) (.node (some a) .nil .nil .nil .nil) (fun m _ =>
        Nat.rec (motive := fun _ => T5 α) (.node none (ih (Nat.div m 4) .nil) .nil .nil .nil) (fun k _ => Nat.rec (motive := fun _ => T5 α) (.node none .nil (ih (Nat.div m 4) .nil) .nil .nil) (fun k _ => Nat.rec (motive := fun _ => T5 α) (.node none .nil .nil (ih (Nat.div m 4) .nil) .nil) (fun _ _ => .node none .nil .nil .nil (ih (Nat.div m 4) .nil)) k) k) (Nat.mod m 4)) n)
      (fun v p q r s _ _ _ _ => Nat.rec (motive := fun _ => T5 α) (.node (some a) p q r s) (fun m _ =>
        Nat.rec (motive := fun _ => T5 α) (.node v (ih (Nat.div m 4) p) q r s) (fun k _ => Nat.rec (motive := fun _ => T5 α) (.node v p (ih (Nat.div m 4) q) r s) (fun k _ => Nat.rec (motive := fun _ => T5 α) (.node v p q (ih (Nat.div m 4) r) s) (fun _ _ => .node v p q r (ih (Nat.div m 4) s)) k) k) (Nat.mod m 4)) n) t) f
def T5.set {α : Type} (t : T5 α) (n : Nat) (a : α) : T5 α := T5.setF a (Nat.succ n) n t
inductive AV where
  | bool (b : Bool)
  | int (k : IntKind) (n : Int)
  | str (s : List Nat)
  | ptr (a : Option (Nat × Nat))
  | slice (a : Option (Nat × Nat)) (len : Nat) (cap : Option Nat)
  | map (r : Option Nat)
  | func (f : Nat) (first captured : List AV)
  | nilFunc
  | iface (t : Nat) (v : AV)
  | nilIface
  | agg (cs : List AV)
  | tuple (vs : List AV)
  deriving Inhabited
def undef : AV := .tuple []
inductive Blk where
  | cells (n : Nat) (c : T5 AV) (own : Bool)
  | map (es : List (AV × AV))
  | dead
structure H where
  next : Nat
  m : T5 Blk
def H.get (h : H) (b : Nat) : Option Blk := h.m.get b
def H.upd (h : H) (b : Nat) (o : Blk) : H := ⟨h.next, h.m.set b o⟩
def H.add (h : H) (o : Blk) : H := ⟨Nat.succ h.next, h.m.set h.next o⟩
abbrev R := Option (AV × H)
abbrev CT := Nat → List AV → H → R
abbrev OA := Option (Nat × Nat)
/-- a frame's values: plain ones, an address of a variable of the frame's own, a literal's row -/
inductive FV where
  | v (x : AV)
  | lptr (d off : Nat)
  | lrow (cs : List AV) (n : Nat)
/-- a variable of the frame's own -/
inductive LC where
  | cells (cs : List AV)
  | iter (s : List Nat) (pos : Nat)
def look {α : Type} : List (Option α) → Nat → Option α
  | [], _ => none
  | x :: _, 0 => x
  | _ :: l, n + 1 => look l n
abbrev oo {α : Type} : Option α := none
abbrev LF := List (Option FV)
abbrev LL := List (Option LC)
def setAt {α : Type} : List (Option α) → Nat → α → List (Option α)
  | [], _, _ => []
  | _ :: l, 0, a => some a :: l
  | x :: l, n + 1, a => x :: setAt l n a
def blank {α : Type} : Nat → List (Option α)
  | 0 => []
  | n + 1 => none :: blank n
def flatA : AV → Bool
  | .agg _ | .tuple _ => false
  | _ => true
/-- a constant of the code -/
def cvN : Nat → Value → Option AV
  | 0, _ => none
  | d + 1, v => match v with
    | .bool b => some (.bool b)
    | .int k n => some (.int k n)
    | .string s => some (.str (s.data.toList.map UInt8.toNat))
    | .pointer none => some (.ptr none)
    | .slice none 0 0 => some (.slice none 0 (some 0))
    | .map none => some (.map none)
    | .nilFunc => some .nilFunc
    | .nilIface => some .nilIface
    | .agg cs => match goF (cvN d) cs.toList with | some l => some (.agg l) | none => none
    | .tuple cs => match go (cvN d) cs.toList with | some l => some (.tuple l) | none => none
    | _ => none
where
  goF (f : Value → Option AV) : List Value → Option (List AV)
    | [] => some []
    | v :: l => match f v with
      | some x => match flatA x, goF f l with | true, some k => some (x :: k) | _, _ => none
      | none => none
  go (f : Value → Option AV) : List Value → Option (List AV)
    | [] => some []
    | v :: l => match f v with
      | some x => match go f l with | some k => some (x :: k) | none => none
      | none => none
def cv (v : Value) : Option AV := cvN 3 v
def opd (T : List (Option FV)) : Operand → Option AV
  | .tmp t => match look T t with | some (.v x) => some x | _ => none
  | .const v => cv v
  | .global g => match Nat.blt g 100 with | true => some (.ptr (some (g, 0))) | false => none
  | .func f => some (.func f [] [])
def opds (T : List (Option FV)) : List Operand → Option (List AV)
  | [] => some []
  | x :: l => match opd T x with
    | some v => match opds T l with | some k => some (v :: k) | none => none
    | none => none
/-- integers -/
def lim : IntKind → Nat
  | .i8 | .u8 => 127
  | .i16 | .u16 => 32767
  | _ => 2147483647
def wrapF (k : IntKind) (n : Int) : Int :=
  match n with
  | .ofNat m => bif Nat.ble m (lim k) then .ofNat m else k.wrap n
  | _ => k.wrap n
def eqI : Int → Int → Bool
  | .ofNat a, .ofNat b => Nat.beq a b
  | .negSucc a, .negSucc b => Nat.beq a b
  | _, _ => false
def leI : Int → Int → Bool
  | .ofNat a, .ofNat b => Nat.ble a b
  | .negSucc a, .negSucc b => Nat.ble b a
  | .negSucc _, .ofNat _ => true
  | .ofNat _, .negSucc _ => false
def ltI : Int → Int → Bool
  | .ofNat a, .ofNat b => Nat.ble (a + 1) b
  | .negSucc a, .negSucc b => Nat.ble (b + 1) a
  | .negSucc _, .ofNat _ => true
  | .ofNat _, .negSucc _ => false
def bitsOp (f : (n : Nat) → BitVec n → BitVec n → BitVec n) (k : IntKind) (x y : Int) : Int :=
  k.wrap (f k.bits (BitVec.ofInt k.bits x) (BitVec.ofInt k.bits y)).toNat
def andI (k : IntKind) (a b : Int) : Int :=
  match a, b with
  | .ofNat x, .ofNat y => bif Nat.ble x (lim k) && Nat.ble y (lim k) then .ofNat (x &&& y) else bitsOp (fun _ p q => p &&& q) k a b
  | _, _ => bitsOp (fun _ p q => p &&& q) k a b
def orI (k : IntKind) (a b : Int) : Int :=
  match a, b with
  | .ofNat x, .ofNat y => bif Nat.ble x (lim k) && Nat.ble y (lim k) then .ofNat (x ||| y) else bitsOp (fun _ p q => p ||| q) k a b
  | _, _ => bitsOp (fun _ p q => p ||| q) k a b
def shlI (k : IntKind) (x y : Int) : Int := wrapF k (x * 2 ^ (min y.toNat k.bits))
def shrI (k : IntKind) (x y : Int) : Int :=
  match x with
  | .ofNat a => .ofNat (a / 2 ^ (min y.toNat k.bits))
  | _ => x.fdiv (2 ^ (min y.toNat k.bits))
def eqK : IntKind → IntKind → Bool
  | .i8, .i8 | .i16, .i16 | .i32, .i32 | .i64, .i64 | .u8, .u8 | .u16, .u16 | .u32, .u32 | .u64, .u64 => true
  | _, _ => false
def intOp (op : BinOp) (k : IntKind) (a b : Int) : Option AV :=
  match op with
  | .add => some (.int k (wrapF k (Int.add a b)))
  | .sub => some (.int k (wrapF k (Int.sub a b)))
  | .mul => some (.int k (wrapF k (Int.mul a b)))
  | .quo => bif eqI b 0 then none else some (.int k (wrapF k (a.tdiv b)))
  | .rem => bif eqI b 0 then none else some (.int k (a.tmod b))
  | .eql => some (.bool (eqI a b))
  | .neq => some (.bool (!eqI a b))
  | .lss => some (.bool (ltI a b))
  | .leq => some (.bool (leI a b))
  | .gtr => some (.bool (ltI b a))
  | .geq => some (.bool (leI b a))
  | .and => some (.int k (andI k a b))
  | .or => some (.int k (orI k a b))
  | .xor => some (.int k (bitsOp (fun _ p q => p ^^^ q) k a b))
  | .andNot => some (.int k (bitsOp (fun _ p q => p &&& ~~~q) k a b))
  | _ => none
def eqS : List Nat → List Nat → Bool
  | [], [] => true
  | a :: x, b :: y => bif Nat.beq a b then eqS x y else false
  | _, _ => false
def ltS : List Nat → List Nat → Bool
  | _, [] => false
  | [], _ :: _ => true
  | a :: x, b :: y => bif Nat.blt a b then true else bif Nat.beq a b then ltS x y else false
def strLim : Nat := 1099511627776
def strOp (op : BinOp) (x y : List Nat) : Option AV :=
  match op with
  | .add => bif Nat.ble (x.length + y.length) strLim then some (.str (x ++ y)) else none
  | .eql => some (.bool (eqS x y))
  | .neq => some (.bool (!eqS x y))
  | .lss => some (.bool (ltS x y))
  | .leq => some (.bool (ltS x y || eqS x y))
  | .gtr => some (.bool (!(ltS x y || eqS x y)))
  | .geq => some (.bool (!ltS x y))
  | _ => none
/-- plain values that may be held against each other cell by cell -/
def eqV : Nat → AV → AV → Option Bool
  | 0, _, _ => none
  | d + 1, x, y => match x, y with
    | .int k a, .int k' b => bif eqK k k' then some (eqI a b) else none
    | .str a, .str b => some (eqS a b)
    | .bool a, .bool b => some (a == b)
    | .nilIface, .iface _ _ => some false
    | .iface _ _, .nilIface => some false
    | .iface t a, .iface t' b => bif Nat.beq t t' then eqV d a b else some false
    | .agg a, .agg b => go (eqV d) a b
    | _, _ => none
where
  go (f : AV → AV → Option Bool) : List AV → List AV → Option Bool
    | [], [] => some true
    | a :: l, b :: k => match f a b with
      | some true => go f l k
      | some false => match go f l k with | some _ => some false | none => none
      | none => none
    | _, _ => none
/-- an address held against nil -/
def nilEq {α : Type} (a b : Option α) : Option Bool :=
  match b with
  | none => some a.isNone
  | some _ => match a with | none => some false | some _ => none
def aun (op : UnOp) (x : AV) : Option AV :=
  match op, x with
  | .not, .bool b => some (.bool (!b))
  | .neg, .int k n => some (.int k (wrapF k (Int.sub 0 n)))
  | .xor, .int k n => some (.int k (bitsOp (fun _ p q => p ^^^ q) k (if k.signed then -1 else k.max) n))
  | _, _ => none
def sameA : Option (Nat × Nat) → Option (Nat × Nat) → Bool
  | none, none => true
  | some (a, b), some (c, d) => Nat.beq a c && Nat.beq b d
  | _, _ => false
def sameO : Option Nat → Option Nat → Bool
  | none, none => true
  | some a, some c => Nat.beq a c
  | _, _ => false
/-- what a type's values look like -/
inductive Form where
  | int (k : IntKind)
  | bool
  | str
  | ptr
  | slice
  | map
  | agg (n : Nat)
  | other
section
variable (P : Program)
def isAggT (t : TypeId) : Bool := match P.underlying t with | some (.struct _) | some (.array _ _) => true | _ => false
def aggT (t : TypeId) : Option Bool := match P.underlying t with | some (.struct _) | some (.array _ _) => some true | some _ => some false | none => none
def sizeT (t : TypeId) : Option Nat := match P.info? t with | some i => some i.size | none => none
def zeroT (t : TypeId) : Option AV := match P.info? t with | some i => (match i.zero with | some z => (match cv z with | some (.tuple _) => none | r => r) | none => none) | none => none
def bytesOk (t : TypeId) : Bool := match P.info? t with | some i => Nat.ble i.bytes 65536 && (match i.zero with | some v => Nat.beq v.cells.size i.size | none => false) | none => false
def rowT (t : TypeId) : Bool := match P.underlying t with | some (.slice _) | some .string => true | _ => false
def formT (t : TypeId) : Form :=
  match P.underlying t with
  | some (.int k) => .int k
  | some .bool => .bool
  | some .string => .str
  | some (.pointer _) => .ptr
  | some (.slice _) => .slice
  | some (.map _ _) => .map
  | some (.struct _) => (match sizeT P t with | some n => .agg n | none => .other)
  | some (.array _ _) => (match sizeT P t with | some n => bif Nat.ble n 12 then .agg n else .other | none => .other)
  | _ => .other
/-- combinators -/
def one (f : AV → R) (l : List AV) : R := match l with | v :: _ => f v | [] => none
def onInt (k : IntKind) (v : AV) (f : Int → R) : R := match v with | .int k' n => bif eqK k k' then f n else none | _ => none
def onBool (v : AV) (f : Bool → R) : R := match v with | .bool b => f b | _ => none
def onStr (v : AV) (f : List Nat → R) : R := match v with | .str s => f s | _ => none
def onPtr (v : AV) (f : Option (Nat × Nat) → R) : R := match v with | .ptr a => f a | _ => none
def onSlice (v : AV) (f : Option (Nat × Nat) → Nat → Option Nat → R) : R := match v with | .slice a n c => f a n c | _ => none
def onMap (v : AV) (f : Option Nat → R) : R := match v with | .map r => f r | _ => none
def onRow (n : Nat) : (List AV → R) → List AV → R :=
  Nat.rec (motive := fun _ => (List AV → R) → List AV → R)
    (fun f l => List.rec (motive := fun _ => R) (f []) (fun _ _ _ => none) l)
    (fun _ ih f l => List.rec (motive := fun _ => R) none (fun x l _ => ih (fun k => f (x :: k)) l) l) n
/-- rows of a known length -/
def row0 (f : R) (l0 : List AV) : R := List.rec (motive := fun _ => R) f (fun _ _ _ => none) l0
def row1 (f : AV → R) (l0 : List AV) : R :=
  List.rec (motive := fun _ => R) none (fun x0 l1 _ => List.rec (motive := fun _ => R) (f x0) (fun _ _ _ => none) l1) l0
def row2 (f : AV → AV → R) (l0 : List AV) : R :=
  List.rec (motive := fun _ => R) none (fun x0 l1 _ => List.rec (motive := fun _ => R) none (fun x1 l2 _ => List.rec (motive := fun _ => R) (f x0 x1) (fun _ _ _ => none) l2) l1) l0
def row3 (f : AV → AV → AV → R) (l0 : List AV) : R :=
  List.rec (motive := fun _ => R) none (fun x0 l1 _ => List.rec (motive := fun _ => R) none (fun x1 l2 _ => List.rec (motive := fun _ => R) none (fun x2 l3 _ => List.rec (motive := fun _ => R) (f x0 x1 x2) (fun _ _ _ => none) l3) l2) l1) l0
def row4 (f : AV → AV → AV → AV → R) (l0 : List AV) : R :=
  List.rec (motive := fun _ => R) none (fun x0 l1 _ => List.rec (motive := fun _ => R) none (fun x1 l2 _ => List.rec (motive := fun _ => R) none (fun x2 l3 _ => List.rec (motive := fun _ => R) none (fun x3 l4 _ => List.rec (motive := fun _ => R) (f x0 x1 x2 x3) (fun _ _ _ => none) l4) l3) l2) l1) l0
def row5 (f : AV → AV → AV → AV → AV → R) (l0 : List AV) : R :=
  List.rec (motive := fun _ => R) none (fun x0 l1 _ => List.rec (motive := fun _ => R) none (fun x1 l2 _ => List.rec (motive := fun _ => R) none (fun x2 l3 _ => List.rec (motive := fun _ => R) none (fun x3 l4 _ => List.rec (motive := fun _ => R) none (fun x4 l5 _ => List.rec (motive := fun _ => R) (f x0 x1 x2 x3 x4) (fun _ _ _ => none) l5) l4) l3) l2) l1) l0
def row6 (f : AV → AV → AV → AV → AV → AV → R) (l0 : List AV) : R :=
  List.rec (motive := fun _ => R) none (fun x0 l1 _ => List.rec (motive := fun _ => R) none (fun x1 l2 _ => List.rec (motive := fun _ => R) none (fun x2 l3 _ => List.rec (motive := fun _ => R) none (fun x3 l4 _ => List.rec (motive := fun _ => R) none (fun x4 l5 _ => List.rec (motive := fun _ => R) none (fun x5 l6 _ => List.rec (motive := fun _ => R) (f x0 x1 x2 x3 x4 x5) (fun _ _ _ => none) l6) l5) l4) l3) l2) l1) l0
def row7 (f : AV → AV → AV → AV → AV → AV → AV → R) (l0 : List AV) : R :=
  List.rec (motive := fun _ => R) none (fun x0 l1 _ => List.rec (motive := fun _ => R) none (fun x1 l2 _ => List.rec (motive := fun _ => R) none (fun x2 l3 _ => List.rec (motive := fun _ => R) none (fun x3 l4 _ => List.rec (motive := fun _ => R) none (fun x4 l5 _ => List.rec (motive := fun _ => R) none (fun x5 l6 _ => List.rec (motive := fun _ => R) none (fun x6 l7 _ => List.rec (motive := fun _ => R) (f x0 x1 x2 x3 x4 x5 x6) (fun _ _ _ => none) l7) l6) l5) l4) l3) l2) l1) l0
def row8 (f : AV → AV → AV → AV → AV → AV → AV → AV → R) (l0 : List AV) : R :=
  List.rec (motive := fun _ => R) none (fun x0 l1 _ => List.rec (motive := fun _ => R) none (fun x1 l2 _ => List.rec (motive := fun _ => R) none (fun x2 l3 _ => List.rec (motive := fun _ => R) none (fun x3 l4 _ => List.rec (motive := fun _ => R) none (fun x4 l5 _ => List.rec (motive := fun _ => R) none (fun x5 l6 _ => List.rec (motive := fun _ => R) none (fun x6 l7 _ => List.rec (motive := fun _ => R) none (fun x7 l8 _ => List.rec (motive := fun _ => R) (f x0 x1 x2 x3 x4 x5 x6 x7) (fun _ _ _ => none) l8) l7) l6) l5) l4) l3) l2) l1) l0
def row9 (f : AV → AV → AV → AV → AV → AV → AV → AV → AV → R) (l0 : List AV) : R :=
  List.rec (motive := fun _ => R) none (fun x0 l1 _ => List.rec (motive := fun _ => R) none (fun x1 l2 _ => List.rec (motive := fun _ => R) none (fun x2 l3 _ => List.rec (motive := fun _ => R) none (fun x3 l4 _ => List.rec (motive := fun _ => R) none (fun x4 l5 _ => List.rec (motive := fun _ => R) none (fun x5 l6 _ => List.rec (motive := fun _ => R) none (fun x6 l7 _ => List.rec (motive := fun _ => R) none (fun x7 l8 _ => List.rec (motive := fun _ => R) none (fun x8 l9 _ => List.rec (motive := fun _ => R) (f x0 x1 x2 x3 x4 x5 x6 x7 x8) (fun _ _ _ => none) l9) l8) l7) l6) l5) l4) l3) l2) l1) l0
def row10 (f : AV → AV → AV → AV → AV → AV → AV → AV → AV → AV → R) (l0 : List AV) : R :=
  List.rec (motive := fun _ => R) none (fun x0 l1 _ => List.rec (motive := fun _ => R) none (fun x1 l2 _ => List.rec (motive := fun _ => R) none (fun x2 l3 _ => List.rec (motive := fun _ => R) none (fun x3 l4 _ => List.rec (motive := fun _ => R) none (fun x4 l5 _ => List.rec (motive := fun _ => R) none (fun x5 l6 _ => List.rec (motive := fun _ => R) none (fun x6 l7 _ => List.rec (motive := fun _ => R) none (fun x7 l8 _ => List.rec (motive := fun _ => R) none (fun x8 l9 _ => List.rec (motive := fun _ => R) none (fun x9 l10 _ => List.rec (motive := fun _ => R) (f x0 x1 x2 x3 x4 x5 x6 x7 x8 x9) (fun _ _ _ => none) l10) l9) l8) l7) l6) l5) l4) l3) l2) l1) l0
def row11 (f : AV → AV → AV → AV → AV → AV → AV → AV → AV → AV → AV → R) (l0 : List AV) : R :=
  List.rec (motive := fun _ => R) none (fun x0 l1 _ => List.rec (motive := fun _ => R) none (fun x1 l2 _ => List.rec (motive := fun _ => R) none (fun x2 l3 _ => List.rec (motive := fun _ => R) none (fun x3 l4 _ => List.rec (motive := fun _ => R) none (fun x4 l5 _ => List.rec (motive := fun _ => R) none (fun x5 l6 _ => List.rec (motive := fun _ => R) none (fun x6 l7 _ => List.rec (motive := fun _ => R) none (fun x7 l8 _ => List.rec (motive := fun _ => R) none (fun x8 l9 _ => List.rec (motive := fun _ => R) none (fun x9 l10 _ => List.rec (motive := fun _ => R) none (fun x10 l11 _ => List.rec (motive := fun _ => R) (f x0 x1 x2 x3 x4 x5 x6 x7 x8 x9 x10) (fun _ _ _ => none) l11) l10) l9) l8) l7) l6) l5) l4) l3) l2) l1) l0
def row12 (f : AV → AV → AV → AV → AV → AV → AV → AV → AV → AV → AV → AV → R) (l0 : List AV) : R :=
  List.rec (motive := fun _ => R) none (fun x0 l1 _ => List.rec (motive := fun _ => R) none (fun x1 l2 _ => List.rec (motive := fun _ => R) none (fun x2 l3 _ => List.rec (motive := fun _ => R) none (fun x3 l4 _ => List.rec (motive := fun _ => R) none (fun x4 l5 _ => List.rec (motive := fun _ => R) none (fun x5 l6 _ => List.rec (motive := fun _ => R) none (fun x6 l7 _ => List.rec (motive := fun _ => R) none (fun x7 l8 _ => List.rec (motive := fun _ => R) none (fun x8 l9 _ => List.rec (motive := fun _ => R) none (fun x9 l10 _ => List.rec (motive := fun _ => R) none (fun x10 l11 _ => List.rec (motive := fun _ => R) none (fun x11 l12 _ => List.rec (motive := fun _ => R) (f x0 x1 x2 x3 x4 x5 x6 x7 x8 x9 x10 x11) (fun _ _ _ => none) l12) l11) l10) l9) l8) l7) l6) l5) l4) l3) l2) l1) l0
def onAgR (v : AV) (f : List AV → R) : R := match v with | .agg l => f l | _ => none
def onAgg (n : Nat) (v : AV) (f : List AV → R) : R := onAgR v (fun l => onRow n f l)
def onSome (a : Option (Nat × Nat)) (f : Nat → Nat → R) : R := match a with | some (b, o) => f b o | none => none
def onOpt {α : Type} (a : Option α) (f : α → R) : R := match a with | some x => f x | none => none
def onNat (x : Int) (f : Nat → R) : R := match x with | .ofNat n => f n | _ => none
def guardB (b : Bool) (k : R) : R := match b with | true => k | false => none
def ifB (b : Bool) (x y : R) : R := match b with | true => x | false => y
def bindR (r : R) (f : AV → H → R) : R := match r with | some (v, h) => f v h | none => none
def chk (fm : Form) (x : AV) (K : AV → R) : R :=
  match fm with
  | .int k => onInt k x (fun n => K (.int k n))
  | .bool => onBool x (fun b => K (.bool b))
  | .str => onStr x (fun s => K (.str s))
  | .ptr => onPtr x (fun a => K (.ptr a))
  | .slice => onSlice x (fun a n c => K (.slice a n c))
  | .map => onMap x (fun r => K (.map r))
  | .agg n => onAgg n x (fun l => K (.agg l))
  | .other => K x
def chkF (fm : Form) (x : FV) (K : FV → R) : R :=
  match x with
  | .v x => chk fm x (fun x => K (.v x))
  | .lptr d o => K (.lptr d o)
  | .lrow _ _ => none
def AV.cells : AV → List AV
  | .agg cs => cs
  | v => [v]
/-- a row of cells as a tree -/
def rowFrom (t : T5 AV) (i : Nat) (l : List AV) : T5 AV :=
  List.rec (motive := fun _ => T5 AV → Nat → T5 AV) (fun t _ => t) (fun v _ ih t i => ih (t.set i v) (Nat.succ i)) l t i
def rdN (c : T5 AV) (o n : Nat) (f : List AV → R) : R :=
  Nat.rec (motive := fun _ => Nat → (List AV → R) → R) (fun _ f => f [])
    (fun _ ih o f => onOpt (c.get o) (fun v => ih (Nat.succ o) (fun l => f (v :: l)))) n o f
def ldK (h : H) (b o s : Nat) (f : List AV → R) : R :=
  match h.get b with
  | some (.cells n c _) => guardB (Nat.ble (o + s) n) (rdN c o s f)
  | _ => none
def stK (h : H) (b o : Nat) (vs : List AV) (f : H → R) : R :=
  match h.get b with
  | some (.cells n c true) => guardB (Nat.ble (o + vs.length) n) (f (h.upd b (.cells n (rowFrom c o vs) true)))
  | _ => none
def newK (h : H) (cs : List AV) (f : Nat → H → R) : R := f h.next (h.add (.cells cs.length (rowFrom .nil 0 cs) true))
/-- local rows -/
def getN (l : List AV) (o s : Nat) : Option (List AV) :=
  bif Nat.ble (o + s) l.length then some ((l.drop o).take s) else none
def setList : List AV → Nat → List AV → List AV
  | l, _, [] => l
  | l, i, v :: vs => setList (l.set i v) (i + 1) vs
def notAgg (v : AV) (k : R) : R := match v with | .agg _ => none | .tuple _ => none | _ => k
/-- a value's cells, by its type -/
def cellsK (ag : Bool) (v : AV) (f : List AV → R) : R :=
  match ag with
  | true => match v with | .agg l => f l | _ => none
  | false => notAgg v (f [v])
def fillK (place : Nat → Option (Nat × Nat × Bool)) : List AV → List (Nat × AV) → (List AV → R) → R
  | cells, [], f => f cells
  | cells, (i, v) :: rest, f => match place i with
    | none => none
    | some (off, size, ag) => cellsK ag v (fun vs => match Nat.beq vs.length size && Nat.ble (off + size) cells.length with
      | true => fillK place (setList cells off vs) rest f
      | false => none)
def placeS (fs : List Field) (i : Nat) : Option (Nat × Nat × Bool) :=
  match fs[i]? with
  | some f => match sizeT P f.type with | some s => some (f.offset, s, isAggT P f.type) | none => none
  | none => none
def partsOf (T : List (Option FV)) : List (Nat × Operand) → Option (List (Nat × AV))
  | [] => some []
  | (i, x) :: l => match opd T x with
    | some v => match partsOf T l with | some k => some ((i, v) :: k) | none => none
    | none => none
def repL (z : List AV) : Nat → List AV
  | 0 => []
  | n + 1 => z ++ repL z n
def partA (t : TypeId) (cs : List AV) (off : Nat) : Option AV :=
  match aggT P t with
  | some true => match sizeT P t with | some s => (match getN cs off s with | some l => some (.agg l) | none => none) | none => none
  | some false => cs[off]?
  | none => none
/-- no struct that the model may stand in for another: those that it knows begin with one of these names -/
def structOk (P : Program) (t : TypeId) (fs : List Field) : Bool := Nat.ble (t + 1) P.types.size && match fs with
  | [] => true
  | f :: _ => !(decide (f.name = "msg") || decide (f.name = "typ") || decide (f.name = "_interface") || decide (f.name = "_") || decide (f.name = "Size_"))
def HST (P : Program) : Prop := ∀ t fs, P.underlying t = some (.struct fs) → structOk P t fs.toList = true → P.stoodInHeld t = false
/-- two values of a type, held against each other -/
def eqT (P : Program) : Nat → TypeId → AV → AV → Option Bool
  | 0, _, _, _ => none
  | d + 1, t, x, y => match P.underlying t with
    | some .bool => (match x, y with | .bool a, .bool b => some (a == b) | _, _ => none)
    | some (.int _) => (match x, y with | .int k a, .int k' b => (match eqK k k' with | true => some (eqI a b) | false => none) | _, _ => none)
    | some .string => (match x, y with | .str a, .str b => some (eqS a b) | _, _ => none)
    | some (.pointer _) => (match x, y with | .ptr a, .ptr b => nilEq a b | _, _ => none)
    | some (.slice _) => (match x, y with | .slice a _ _, .slice b _ _ => nilEq a b | _, _ => none)
    | some (.map _ _) => (match x, y with | .map a, .map b => nilEq a b | _, _ => none)
    | some (.func _ _ _) => (match x, y with | .nilFunc, .nilFunc => some true | .nilFunc, .func _ _ _ => some false | .func _ _ _, .nilFunc => some false | _, _ => none)
    | some (.interface _) => (match x, y with | .nilIface, .iface _ _ => some false | .iface _ _, .nilIface => some false | _, _ => none)
    | some (.struct fs) => (match structOk P t fs.toList with | true => (match x, y with | .agg xs, .agg ys => go (fun f => eqT P d f.type) xs ys fs.toList | _, _ => none) | false => none)
    | some (.array n e) => (match x, y, sizeT P e with | .agg xs, .agg ys, some sz => goA (eqT P d e) e sz xs ys n 0 | _, _, _ => none)
    | _ => none
where
  go (f : Field → AV → AV → Option Bool) (xs ys : List AV) : List Field → Option Bool
    | [] => some true
    | fd :: fs => match decide (fd.name = "_") with
      | true => none
      | false => match partA P fd.type xs fd.offset, partA P fd.type ys fd.offset with
        | some a, some b => match f fd a b with
          | some true => go f xs ys fs
          | some false => some false
          | none => none
        | _, _ => none
  goA (f : AV → AV → Option Bool) (e : TypeId) (sz : Nat) (xs ys : List AV) : Nat → Nat → Option Bool
    | 0, _ => some true
    | n + 1, i => match partA P e xs (i * sz), partA P e ys (i * sz) with
      | some a, some b => match f a b with
        | some true => goA f e sz xs ys n (i + 1)
        | some false => some false
        | none => none
      | _, _ => none
/-- no nil interface value lies inside -/
def eqG (P : Program) (t : TypeId) (x : AV) : Bool := match x with | .agg _ => !P.eqGuardType P.depth t | _ => true
def abin (P : Program) (t : TypeId) (op : BinOp) (x y : AV) : Option AV :=
  match x, y with
  | .int k a, .int k' b => match op with
    | .shl => bif ltI b 0 then none else some (.int k (shlI k a b))
    | .shr => bif ltI b 0 then none else some (.int k (shrI k a b))
    | _ => bif eqK k k' then intOp op k a b else none
  | .str a, .str b => strOp op a b
  | x, y => match op with
    | .eql => match eqG P t x, eqT P 4 t x y with | true, some b => some (.bool b) | _, _ => none
    | .neq => match eqG P t x, eqT P 4 t x y with | true, some b => some (.bool (!b)) | _, _ => none
    | _ => none
def bytesOfCells : List AV → Option (List Nat)
  | [] => some []
  | v :: l => match v with
    | .int .u8 (.ofNat n) => bif Nat.blt n 256 then (match bytesOfCells l with | some k => some (n :: k) | none => none) else none
    | _ => none
def bytesK (h : H) (a : Option (Nat × Nat)) (n : Nat) (f : List Nat → R) : R :=
  match a with
  | none => f []
  | some (b, o) => ldK h b o n (fun l => onOpt (bytesOfCells l) f)
def newM (h : H) (f : Nat → H → R) : R := f h.next (h.add (.map []))
def u8s : List Nat → List AV
  | [] => []
  | n :: l => .int .u8 (.ofNat n) :: u8s l
def addAddr (a : Option (Nat × Nat)) (n : Nat) : Option (Nat × Nat) := match a with | some (b, o) => some (b, o + n) | none => none
def fieldOff (t : TypeId) (i : Nat) : Option Field :=
  match P.underlying t with
  | some (.struct fs) => (match fs[i]? with | some f => (match sizeT P f.type with | some (_ + 1) => some f | _ => none) | none => none)
  | _ => none
def clrK (h : H) (a : Option (Nat × Nat)) (n : Nat) (z : List AV) (f : H → R) : R :=
  match n with
  | 0 => f h
  | m + 1 => onSome a (fun b o => stK h b o (repL z (m + 1)) f)
def slcS (s : List Nat) (lo hi : Option Int) (f : List Nat → R) : R :=
  onNat (lo.getD 0) (fun l => onNat (hi.getD (.ofNat s.length)) (fun h => guardB (Nat.ble l h && Nat.ble h s.length) (f ((s.drop l).take (h - l)))))
def slcV (sz : Nat) (a : Option (Nat × Nat)) (n : Nat) (cp : Option Nat) (lo hi mx : Option Int) (f : Option (Nat × Nat) → Nat → Option Nat → R) : R :=
  onNat (lo.getD 0) (fun l => onNat (hi.getD (.ofNat n)) (fun h =>
    match mx with
    | none => match cp with
      | some c => guardB (Nat.ble l h && Nat.ble h c) (f (bif Nat.beq c l then a else addAddr a (l * sz)) (h - l) (some (c - l)))
      | none => guardB (Nat.ble l h && Nat.ble h n && (Nat.ble (l + 1) n || Nat.beq l 0)) (f (addAddr a (l * sz)) (h - l) none)
    | some m => onNat m (fun m => guardB (Nat.ble l h && Nat.ble h m && (Nat.ble m (match cp with | some c => c | none => n) && hi.isSome)) (f (bif Nat.beq m l then a else addAddr a (l * sz)) (h - l) (some (m - l))))))
def idxAddr (sz : Nat) (a : Option (Nat × Nat)) (n : Nat) (i : Int) (f : Nat → Nat → R) : R :=
  onNat i (fun j => onSome a (fun b o => guardB (Nat.blt j n) (f b (o + j * sz))))
def idxS (s : List Nat) (i : Int) (f : Nat → R) : R := onNat i (fun j => onOpt (s[j]?) f)
def srcK (h : H) (sz : Nat) (a : Option (Nat × Nat)) (n : Nat) (f : List AV → R) : R :=
  match n with
  | 0 => f []
  | m + 1 => onSome a (fun b o => ldK h b o ((m + 1) * sz) f)
/-- a grown row: the size of its elements is laid behind its cells -/
def mark (c : T5 AV) (n sz : Nat) : T5 AV := c.set n (.int .u8 (.ofNat sz))
def marked (c : T5 AV) (n sz : Nat) : Bool := match c.get n with | some (.int _ (.ofNat z)) => Nat.beq z sz | _ => false
def newZ (h : H) (sz : Nat) (cs : List AV) (f : Nat → H → R) : R := f h.next (h.add (.cells cs.length (mark (rowFrom .nil 0 cs) cs.length sz) true))
def appL (h : H) (sz : Nat) (a : Option (Nat × Nat)) (len : Nat) (cap : Option Nat) (n : Nat) (new : List AV) (f : Option (Nat × Nat) → Nat → Option Nat → H → R) : R :=
  match n with
  | 0 => f a len cap h
  | m + 1 => guardB (Nat.ble len 1073741824 && Nat.ble (m + 1) 1073741824 && Nat.beq new.length ((m + 1) * sz))
    (match cap with
    | some cp => ifB (Nat.ble (len + (m + 1)) cp)
        (onSome a (fun b o => stK h b (o + len * sz) new (fun h => f a (len + (m + 1)) (some cp) h)))
        (srcK h sz a len (fun old => newZ h sz (old ++ new) (fun b h => f (some (b, 0)) (len + (m + 1)) none h)))
    | none => onSome a (fun b o => guardB (Nat.beq o 0) (match h.get b with
      | some (.cells k c true) => guardB (Nat.ble (len * sz) k && marked c k sz)
          (f (some (h.next, 0)) (len + (m + 1)) none ((h.upd b .dead).add (.cells ((len + (m + 1)) * sz) (mark (rowFrom c (len * sz) new) ((len + (m + 1)) * sz) sz) true)))
      | _ => none)))
def lookL (k : AV) : List (AV × AV) → Option (Option AV)
  | [] => some none
  | (a, v) :: l => match eqV 4 k a with
    | some true => some (some v)
    | some false => lookL k l
    | none => none
def updL (k v : AV) : List (AV × AV) → List (AV × AV)
  | [] => []
  | (a, x) :: l => match eqV 4 k a with
    | some true => (a, v) :: l
    | _ => (a, x) :: updL k v l
def esK (h : H) (r : Option Nat) (f : List (AV × AV) → R) : R :=
  match r with
  | none => f []
  | some b => match h.get b with | some (.map es) => f es | _ => none
/-- a cell of a key, by its type -/
def cellOk (P : Program) (t : TypeId) (x : AV) : Bool :=
  match P.underlying t, x with
  | some (.int _), .int _ _ => true
  | some .string, .str _ => true
  | some .bool, .bool _ => true
  | _, _ => false
def fieldsOk (P : Program) : List Field → Nat → List AV → Bool
  | [], _, [] => true
  | f :: fs, i, x :: l => !decide (f.name = "_") && Nat.beq f.offset i && cellOk P f.type x && fieldsOk P fs (i + 1) l
  | _, _, _ => false
def elemsOk (P : Program) (e : TypeId) : List AV → Bool
  | [] => true
  | x :: l => cellOk P e x && elemsOk P e l
/-- does a key fit its type? -/
def keyOk (P : Program) (kt : TypeId) (k : AV) : Bool :=
  match k with
  | .agg l => match P.underlying kt with
    | some (.struct fs) => structOk P kt fs.toList && fieldsOk P fs.toList 0 l
    | some (.array n e) => Nat.beq l.length n && (match sizeT P e with | some s => Nat.beq s 1 | none => false) && elemsOk P e l
    | _ => false
  | x => cellOk P kt x
def lkp (h : H) (r : Option Nat) (k : AV) (f : AV → R) (g : R) : R :=
  esK h r (fun es => match lookL k es with | none => none | some (some v) => f v | some none => g)
def mupd (h : H) (r : Option Nat) (k x : AV) (f : H → R) : R :=
  match r with
  | none => none
  | some b => match h.get b with
    | some (.map es) => match lookL k es with
      | none => none
      | some none => f (h.upd b (.map ((k, x) :: es)))
      | some (some _) => f (h.upd b (.map (updL k x es)))
    | _ => none
def minI (a b : Int) : Int := bif ltI b a then b else a
def maxI (a b : Int) : Int := bif ltI a b then b else a
def foldI (f : Int → Int → Int) (k : IntKind) : Int → List AV → Option Int
  | x, [] => some x
  | x, v :: l => match v with | .int k' y => bif eqK k k' then foldI f k (f x y) l else none | _ => none
/-- utf-8 -/
def decodeL : List Nat → Nat × Nat
  | [] => (0, 1)
  | b0 :: s =>
    let c1 := match s with | a :: _ => a | [] => 0
    let c2 := match s with | _ :: a :: _ => a | _ => 0
    let c3 := match s with | _ :: _ :: a :: _ => a | _ => 0
    bif Nat.blt b0 128 then (b0, 1)
    else bif Nat.beq (b0 / 32) 6 && Nat.beq (c1 / 64) 2 then
      bif Nat.ble 128 (b0 % 32 * 64 + c1 % 64) then (b0 % 32 * 64 + c1 % 64, 2) else (65533, 1)
    else bif Nat.beq (b0 / 16) 14 && Nat.beq (c1 / 64) 2 && Nat.beq (c2 / 64) 2 then
      let c := b0 % 16 * 4096 + c1 % 64 * 64 + c2 % 64
      bif Nat.ble 2048 c && (Nat.blt c 55296 || Nat.ble 57344 c) then (c, 3) else (65533, 1)
    else bif Nat.beq (b0 / 8) 30 && Nat.beq (c1 / 64) 2 && Nat.beq (c2 / 64) 2 && Nat.beq (c3 / 64) 2 then
      let c := b0 % 8 * 262144 + c1 % 64 * 4096 + c2 % 64 * 64 + c3 % 64
      bif Nat.ble 65536 c && Nat.ble c 1114111 then (c, 4) else (65533, 1)
    else (65533, 1)
def nextS (s : List Nat) (f : Nat → Nat → R) (g : R) : R :=
  match s with
  | [] => g
  | _ :: _ => f (decodeL s).1 (decodeL s).2
def tyAs (x : AV) (t : Nat) (f : AV → R) (g : R) : R :=
  match x with
  | .iface d v => ifB (Nat.beq d t) (f v) g
  | .nilIface => g
  | _ => none
def nilV (x : AV) (f : AV → R) : R :=
  match x with
  | .ptr a => onSome a (fun b o => f (.ptr (some (b, o))))
  | .iface t v => f (.iface t v)
  | .func a b c => f (.func a b c)
  | _ => none
def onFn (x : AV) (f : Nat → List AV → List AV → R) : R := match x with | .func a b c => f a b c | _ => none
def onIface (x : AV) (f : Nat → AV → R) : R := match x with | .iface t v => f t v | _ => none
def onTuple (x : AV) (i : Nat) (f : AV → R) : R := match x with | .tuple l => onOpt (l[i]?) f | _ => none
def methOf (t : Nat) (name : String) : Option Nat :=
  match P.info? t with
  | some i => match i.methods.find? (·.name == name) with
    | some m => match m.path.toList, m.func, P.underlying t with
      | [], some (f, false), some (.struct _) => some f
      | _, _, _ => none
    | none => none
  | none => none
def pickV (e : Bool) (x y : AV) : AV :=
  match x, y with
  | .bool p, .bool q => .bool (match e with | true => p | false => q)
  | x, y => match e with | true => x | false => y
/-- where an address leads: a variable of the frame's own, or memory -/
inductive Loc where
  | loc (d off : Nat)
  | mem (b o : Nat)
def locOf (T : List (Option FV)) : Operand → Option Loc
  | .tmp t => match look T t with
    | some (.v (.ptr (some (b, o)))) => some (.mem b o)
    | some (.lptr d off) => some (.loc d off)
    | _ => none
  | .global g => match Nat.blt g 100 with | true => some (.mem g 0) | false => none
  | _ => none
def loadK (T : List (Option FV)) (L : List (Option LC)) (h : H) (t : TypeId) (x : Operand) (f : AV → R) : R :=
  match locOf T x, sizeT P t with
  | some (.loc d off), some s => match look L d with
    | some (.cells cs) => match aggT P t with
      | some true => (match getN cs off s with | some l => f (.agg l) | none => none)
      | some false => (match cs[off]? with | some v => f v | none => none)
      | none => none
    | _ => none
  | some (.mem b o), some s => match aggT P t with
    | some true => ldK h b o s (fun l => f (.agg l))
    | some false => ldK h b o 1 (one f)
    | none => none
  | _, _ => none
def storeK (T : List (Option FV)) (L : List (Option LC)) (h : H) (t : TypeId) (x : Operand) (v : AV) (f : List (Option LC) → H → R) : R :=
  match locOf T x, sizeT P t with
  | some (.loc d off), some s => match look L d with
    | some (.cells cs) => cellsK (isAggT P t) v (fun vs => match Nat.beq vs.length s && Nat.ble (off + s) cs.length with | true => f (setAt L d (.cells (setList cs off vs))) h | false => none)
    | _ => none
  | some (.mem b o), some s => cellsK (isAggT P t) v (fun vs => match Nat.beq vs.length s with | true => stK h b o vs (f L) | false => none)
  | _, _ => none
def intsOf : Option Operand → List (Option FV) → Option (Option Int)
  | some x, T => match opd T x with | some (.int _ n) => some (some n) | _ => none
  | none, _ => some none
/-- a row of the frame's own -/
def lrowOf (T : List (Option FV)) : Operand → Option (List AV × Nat)
  | .tmp t => match look T t with
    | some (.lrow cs n) => some (cs, n)
    | _ => none
  | _ => none
/-- the operations that call no Go function: what follows is handed the value, the own variables and the heap -/
def simple (T : List (Option FV)) (L : List (Option LC)) (h : H) (K : FV → List (Option LC) → H → R) : Op → R
  | .move x => mv x
  | .assign x => mv x
  | .pick c a b => match opd T c, opd T a, opd T b with | some (.bool e), some x, some y => K (.v (pickV e x y)) L h | _, _, _ => none
  | .alloc e => match zeroT P e with | some z => newK h z.cells (fun b h => K (.v (.ptr (some (b, 0)))) L h) | none => none
  | .box e x => match opd T x with | some v => cellsK (isAggT P e) v (fun vs => newK h vs (fun b h => K (.v (.ptr (some (b, 0)))) L h)) | none => none
  | .build t ps => match P.underlying t, zeroT P t, partsOf T ps.toList with
    | some (.struct fs), some z, some ps => match fs.toList.all (fun f => (sizeT P f.type).isSome) with
      | true => fillK (placeS P fs.toList) z.cells ps (fun cs => K (.v (.agg cs)) L h)
      | false => none
    | some (.array _ e), some z, some ps => match sizeT P e with
      | some sz => fillK (fun i => some (i * sz, sz, isAggT P e)) z.cells ps (fun cs => K (.v (.agg cs)) L h)
      | none => none
    | _, _, _ => none
  | .buildSlice t n ps => match P.underlying t, partsOf T ps.toList with
    | some (.slice e), some ps => match sizeT P e, zeroT P e with
      | some sz, some z => match Nat.ble (n * sz) 16777216 && Nat.beq z.cells.length sz with
        | true => fillK (fun i => some (i * sz, sz, isAggT P e)) (repL z.cells n) ps (fun cs => newK h cs (fun b h => K (.v (.slice (some (b, 0)) n (some n))) L h))
        | false => none
      | _, _ => none
    | _, _ => none
  | .load t a => loadK P T L h t a (fun v => K (.v v) L h)
  | .store t a x => match opd T x with | some v => storeK P T L h t a v (fun L h => K (.v undef) L h) | none => none
  | .nilCheck x => match x with
    | .tmp s => match look T s with
      | some (.lptr d o) => K (.lptr d o) L h
      | some (.v y) => nilV y (fun y => K (.v y) L h)
      | _ => none
    | _ => none
  | .binOp op t x y _ => match opd T x, opd T y with | some x, some y => onOpt (abin P t op x y) (fun v => K (.v v) L h) | _, _ => none
  | .unOp op _ x => match opd T x with | some x => onOpt (aun op x) (fun v => K (.v v) L h) | none => none
  | .convert s d x => match lrowOf T x with
   | some (cs, n) => match P.underlying s, P.underlying d with
    | some (.slice e), some .string => match P.underlying e with
      | some (.int .u8) => guardB (Nat.beq cs.length n) (onOpt (bytesOfCells cs) (fun k => K (.v (.str k)) L h))
      | _ => none
    | _, _ => none
   | none => match P.underlying s, P.underlying d, opd T x with
    | some _, some (.int k), some (.int _ n) => K (.v (.int k (wrapF k n))) L h
    | some _, some .string, some (.str s) => K (.v (.str s)) L h
    | some (.slice e), some .string, some (.slice a n _) => match P.underlying e with
      | some (.int .u8) => bytesK h a n (fun k => K (.v (.str k)) L h)
      | _ => none
    | _, _, _ => none
  | .makeInterface t x => match P.underlying t, opd T x with
    | some (.interface _), _ => none
    | some _, some x => K (.v (.iface t x)) L h
    | _, _ => none
  | .makeFunc (.func f) a b => match opds T a.toList, opds T b.toList with | some a, some b => K (.v (.func f a b)) L h | _, _ => none
  | .makeMap _ none => newM h (fun b h => K (.v (.map (some b))) L h)
  | .makeSlice t l c => match P.underlying t, opd T l, opd T c with
    | some (.slice e), some (.int _ l), some (.int _ c) => match sizeT P e, zeroT P e with
      | some sz, some z => guardB (Nat.beq z.cells.length sz && bytesOk P e) (onNat l (fun l => onNat c (fun c => guardB (Nat.ble l c && Nat.ble c 1073741824) (newK h (repL z.cells c) (fun b h => K (.v (.slice (some (b, 0)) l (some c))) L h)))))
      | _, _ => none
    | _, _, _ => none
  | .slice t x lo hi mx => match P.underlying t, opd T x, intsOf lo T, intsOf hi T, intsOf mx T with
    | some .string, some (.str s), some lo, some hi, some none => slcS s lo hi (fun s => K (.v (.str s)) L h)
    | some (.slice e), some (.slice a n c), some lo, some hi, some mx => match sizeT P e with
      | some sz => slcV sz a n c lo hi mx (fun a n c => K (.v (.slice a n c)) L h)
      | none => none
    | _, _, _, _, _ => none
  | .fieldAddr t x i => match locOf T x, fieldOff P t i with
    | some (.loc d off), some f => K (.lptr d (off + f.offset)) L h
    | some (.mem b o), some f => K (.v (.ptr (some (b, o + f.offset)))) L h
    | _, _ => none
  | .field t x i => match opd T x, fieldOff P t i with
    | some (.agg cs), some f => match partA P f.type cs f.offset with | some v => K (.v v) L h | none => none
    | _, _ => none
  | .indexAddr t x i => match P.underlying t, opd T i with
    | some (.slice e), some (.int _ i) => match opd T x, sizeT P e with
      | some (.slice a n _), some sz => idxAddr sz a n i (fun b o => K (.v (.ptr (some (b, o)))) L h)
      | _, _ => none
    | some (.array n e), some (.int _ i) => match locOf T x, sizeT P e with
      | some (.mem b o), some sz => onNat i (fun j => guardB (Nat.blt j n) (K (.v (.ptr (some (b, o + j * sz)))) L h))
      | some (.loc d o), some sz => onNat i (fun j => guardB (Nat.blt j n) (K (.lptr d (o + j * sz)) L h))
      | _, _ => none
    | _, _ => none
  | .index t x i => match P.underlying t, opd T x, opd T i with
    | some .string, some (.str s), some (.int _ i) => idxS s i (fun b => K (.v (.int .u8 (.ofNat b))) L h)
    | some (.array n e), some (.agg cs), some (.int _ i) => match sizeT P e with
      | some sz => onNat i (fun j => guardB (Nat.blt j n) (onOpt (partA P e cs (j * sz)) (fun v => K (.v v) L h)))
      | none => none
    | _, _, _ => none
  | .lookup t x k ok => match P.underlying t, opd T x, opd T k with
    | some (.map kt e), some (.map r), some k => match zeroT P e with
      | some z => guardB (keyOk P kt k) (match ok with
        | true => lkp h r k (fun v => K (.v (.tuple [v, .bool true])) L h) (K (.v (.tuple [z, .bool false])) L h)
        | false => lkp h r k (fun v => K (.v v) L h) (K (.v z) L h))
      | none => none
    | _, _, _ => none
  | .mapUpdate t m k x => mput t m k x
  | .insert t m k x => mput t m k x
  | .next it st => match st, it with
    | true, .tmp s => match look T s with
      | some (.lptr d 0) => match look L d with
        | some (.iter s p) => nextS s (fun r w => K (.v (.tuple [.bool true, .int .i64 (.ofNat p), .int .i32 (.ofNat r)])) (setAt L d (.iter (s.drop w) (p + w))) h) (K (.v (.tuple [.bool false])) L h)
        | _ => none
      | _ => none
    | _, _ => none
  | .typeAssert x _ t ok => match P.underlying t, opd T x, zeroT P t with
    | some (.interface _), _, _ => none
    | some _, some x, some z => match ok with
      | true => tyAs x t (fun v => K (.v (.tuple [v, .bool true])) L h) (K (.v (.tuple [z, .bool false])) L h)
      | false => tyAs x t (fun v => K (.v v) L h) none
    | _, _, _ => none
  | .extract x i => match opd T x with
    | some y => onTuple y i (fun v => K (.v v) L h)
    | none => none
  | .call { callee := .builtin b, args := as, argTypes := ts } => match b with
    | .len => match opds T as.toList, ts.toList with
      | some [v], t :: _ => match P.underlying t with
        | some .string => onStr v (fun s => K (.v (.int .i64 (.ofNat s.length))) L h)
        | some (.slice _) => onSlice v (fun _ n _ => K (.v (.int .i64 (.ofNat n))) L h)
        | some (.map _ _) => onMap v (fun r => esK h r (fun es => K (.v (.int .i64 (.ofNat es.length))) L h))
        | _ => none
      | _, _ => none
    | .append => match as.toList, ts.toList with
      | [x, y], t :: u :: _ => match P.underlying t with
        | some (.slice e) => match sizeT P e, opd T x with
          | some sz, some (.slice a len cap) => guardB (bytesOk P e && rowT P u) <| srcOf y (fun n new => appL h sz a len cap n new (fun a n c h => K (.v (.slice a n c)) L h)) sz
          | _, _ => none
        | _ => none
      | _, _ => none
    | .min => match opds T as.toList with | some (.int k x :: l) => (match foldI minI k x l with | some n => K (.v (.int k n)) L h | none => none) | _ => none
    | .max => match opds T as.toList with | some (.int k x :: l) => (match foldI maxI k x l with | some n => K (.v (.int k n)) L h | none => none) | _ => none
    | .clear => match opds T as.toList, ts.toList with
      | some [.slice a n _], t :: _ => match P.underlying t with
        | some (.slice e) => match sizeT P e, zeroT P e with
          | some _, some z => clrK h a n z.cells (fun h => K (.v undef) L h)
          | _, _ => none
        | _ => none
      | _, _ => none
    | _ => none
  | _ => none
where
  mput (t : TypeId) (m k x : Operand) : R := match P.underlying t, opd T m, opd T k, opd T x with
    | some (.map kt _), some (.map r), some k, some x => guardB (keyOk P kt k) (mupd h r k x (fun h => K (.v undef) L h))
    | _, _, _, _ => none
  mv (x : Operand) : R := match x with
    | .tmp s => match look T s with
      | some (.v x) => K (.v x) L h
      | some (.lptr d o) => K (.lptr d o) L h
      | _ => none
    | x => match opd T x with | some v => K (.v v) L h | none => none
  srcOf (y : Operand) (f : Nat → List AV → R) (sz : Nat) : R := match y with
    | .tmp s => match look T s with
      | some (.lrow cs n) => f n cs
      | some (.v (.slice a n _)) => srcK h sz a n (fun l => f n l)
      | some (.v (.str s)) => f s.length (u8s s)
      | _ => none
    | y => match opd T y with
      | some (.str s) => f s.length (u8s s)
      | some (.slice a n _) => srcK h sz a n (fun l => f n l)
      | _ => none
/-- the same operations where what is made is the frame's own -/
def localOp (T : List (Option FV)) (L : List (Option LC)) (h : H) (d : Nat) (K : FV → List (Option LC) → H → R) : Op → R
  | .alloc e => match zeroT P e with | some z => K (.lptr d 0) (setAt L d (.cells z.cells)) h | none => none
  | .box e x => match opd T x with | some v => cellsK (isAggT P e) v (fun vs => K (.lptr d 0) (setAt L d (.cells vs)) h) | none => none
  | .buildSlice t n ps => match P.underlying t, partsOf T ps.toList with
    | some (.slice e), some ps => match sizeT P e, zeroT P e with
      | some sz, some z => match Nat.ble (n * sz) 16777216 && Nat.beq z.cells.length sz with
        | true => fillK (fun i => some (i * sz, sz, isAggT P e)) (repL z.cells n) ps (fun cs => K (.lrow cs n) L h)
        | false => none
      | _, _ => none
    | _, _ => none
  | .range t x => match P.underlying t, opd T x with
    | some .string, some (.str s) => K (.lptr d 0) (setAt L d (.iter s 0)) h
    | _, _ => none
  | _ => none
/-- whom a call enters -/
def callOp (call : Nat → List AV → H → R) (T : List (Option FV)) (h : H) (K : AV → H → R) : Op → R
  | .call { callee := .value f, args := as, .. } => match opd T f, opds T as.toList with
    | some y, some as => onFn y (fun f first cap => bindR (call f (first ++ as ++ cap) h) K)
    | _, _ => none
  | .call { callee := .invoke r name, args := as, .. } => match opd T r, opds T as.toList with
    | some y, some as => onIface y (fun t v => onOpt (methOf P t name) (fun f => bindR (call f (v :: as) h) K))
    | _, _ => none
  | _ => none
def isCall : Op → Bool
  | .call { callee := .value _, .. } | .call { callee := .invoke .., .. } => true
  | _ => false
/-- is no address of this own variable about? -/
def noRef (d : Nat) : List (Option FV) → Bool
  | [] => true
  | some (.lptr d' _) :: l => !(Nat.beq d d') && noRef d l
  | _ :: l => noRef d l
/-- what stands in a region's list: a parting on a slot; an operation; one whose value is the frame's own -/
inductive Item where
  | split (d : Nat)
  | op (i : Nat)
  | opL (i : Nat)
def putK (T : List (Option FV)) (fm : Form) (dst : Option Tmp) (x : FV) (K : List (Option FV) → R) : R :=
  match dst with
  | none => K T
  | some d => match Nat.blt d T.length with
    | true => chkF fm x (fun x => K (setAt T d x))
    | false => none
def wantedA (ops : List Oper) (T : List (Option FV)) (o : Oper) : Option Bool :=
  match o.guard with
  | none => some true
  | some (j, w) => match ops[j]? with
    | some { dst := some d, .. } => match look T d with
      | some (.v (.bool b)) => some (match b with | true => w | false => !w)
      | some (.v (.tuple [])) => some false
      | _ => none
    | _ => none
def itemK (call : Nat → List AV → H → R) (ops : List Oper) (it : Item) (T : List (Option FV)) (L : List (Option LC)) (h : H) (K : List (Option FV) → List (Option LC) → H → R) : R :=
  match it with
  | .split d => match look T d with
    | some (.v (.bool b)) => ifB b (K (setAt T d (.v (.bool true))) L h) (K (setAt T d (.v (.bool false))) L h)
    | some (.v (.tuple [])) => K T L h
    | _ => none
  | .op i => match ops[i]? with
    | none => none
    | some o => match wantedA ops T o with
      | none => none
      | some false => putK T .other o.dst (.v undef) (fun T => K T L h)
      | some true => match isCall o.op with
        | true => callOp P call T h (fun v h => putK T (formT P o.type) o.dst (.v v) (fun T => K T L h)) o.op
        | false => simple P T L h (fun v L h => putK T (formT P o.type) o.dst v (fun T => K T L h)) o.op
  | .opL i => match ops[i]? with
    | none => none
    | some o => match wantedA ops T o, o.dst with
      | some true, some d => match noRef d T, Nat.blt d T.length with
        | true, true => localOp P T L h d (fun v L h => K (setAt T d v) L h) o.op
        | _, _ => none
      | some false, dst => putK T .other dst (.v undef) (fun T => K T L h)
      | _, _ => none
def itemsK (call : Nat → List AV → H → R) (ops : List Oper) : List Item → List (Option FV) → List (Option LC) → H → (List (Option FV) → List (Option LC) → H → R) → R
  | [], T, L, h, K => K T L h
  | it :: l, T, L, h, K => itemK P call ops it T L h (fun T L h => itemsK call ops l T L h K)
/-- the indexes of a list, in its order -/
def idxs : List Item → List Nat
  | [] => []
  | .split _ :: l => idxs l
  | .op i :: l => i :: idxs l
  | .opL i :: l => i :: idxs l
def countUp (i : Nat) : List Nat → Nat → Bool
  | [], n => Nat.beq i n
  | j :: l, n => Nat.beq i j && countUp (i + 1) l n
mutual
/-- are two values one? -/
def sameAV : AV → AV → Bool
  | .bool a, .bool b => a == b
  | .int k a, .int k' b => eqK k k' && eqI a b
  | .str a, .str b => eqS a b
  | .ptr a, .ptr b => sameA a b
  | .slice a n c, .slice b m d => sameA a b && Nat.beq n m && sameO c d
  | .map a, .map b => sameO a b
  | .func f a b, .func g c d => Nat.beq f g && sameL a c && sameL b d
  | .nilFunc, .nilFunc => true
  | .iface t a, .iface u b => Nat.beq t u && sameAV a b
  | .nilIface, .nilIface => true
  | .agg a, .agg b => sameL a b
  | .tuple a, .tuple b => sameL a b
  | _, _ => false
def sameL : List AV → List AV → Bool
  | [], [] => true
  | a :: l, b :: k => sameAV a b && sameL l k
  | _, _ => false
end
/-- operations that act -/
def isEff : Op → Bool
  | .call { callee := .value _, .. } | .call { callee := .invoke .., .. } => true
  | .call { callee := .builtin .append, .. } | .call { callee := .builtin .clear, .. } => true
  | .store .. | .mapUpdate .. | .insert .. | .next .. => true
  | _ => false
/-- operations that only read -/
def isRead : Op → Bool
  | .load .. | .convert .. | .lookup .. | .call { callee := .builtin .len, .. } => true
  | _ => false
/-- operations that do no more than compute -/
def isPure (op : Op) : Bool := !isEff op && !isRead op && (match op with | .alloc _ | .box .. | .buildSlice .. | .makeMap .. | .makeSlice .. | .range .. => false | _ => true)
/-- of each operation, as bits, what stands ahead of it -/
def masks : List Oper → List Nat → List Nat
  | [], acc => acc
  | o :: l, acc => masks l (acc ++ [(o.after.toList.foldl (fun m e => match Region.binds .any e with | true => m ||| 2 ^ e.on ||| acc.getD e.on 0 | false => m) 0)])
/-- computes; reads; makes what is the frame's own; acts -/
inductive Kd where
  | pure
  | read
  | row
  | loc
  | act
def kdOf (ops : List Oper) : Item → Option (Nat × Kd)
  | .split _ => none
  | .op i => match ops[i]? with
    | some o => some (i, match isPure o.op with | true => .pure | false => match isRead o.op with | true => .read | false => .act)
    | none => none
  | .opL i => some (i, match ops[i]? with | some { op := .buildSlice .., .. } => .row | _ => .loc)
def dstOf (ops : List Oper) (i : Nat) : Option Nat := match ops[i]? with | some o => o.dst | none => none
def tmpsOf (o : Oper) : List Nat := o.op.operands.toList.filterMap fun | .tmp t => some t | _ => none
/-- the slots that an operation looks at -/
def looksOf (ops : List Oper) (i : Nat) : List Nat := match ops[i]? with
  | some o => match o.guard with
    | none => tmpsOf o
    | some (g, _) => match dstOf ops g with | some d => d :: tmpsOf o | none => tmpsOf o
  | none => []
def waits (ki kj : Kd) : Bool := match ki, kj with
  | .pure, _ => false
  | .row, _ => false
  | _, .act => true
  | .loc, .read => true
  | _, _ => false
def inO (d : Option Nat) (l : List Nat) : Bool := match d with | some d => l.contains d | none => false
def apartO : Option Nat → Option Nat → Bool
  | some a, some b => !Nat.beq a b
  | _, _ => true
/-- two operations, the first listed ahead of the second -/
def pairB (ops : List Oper) (ms : List Nat) (p q : Nat × Kd) : Bool :=
  !Nat.beq p.1 q.1 && !(ms.getD p.1 0).testBit q.1 && (!(waits p.2 q.2 || inO (dstOf ops p.1) (looksOf ops q.1) || inO (dstOf ops q.1) (looksOf ops p.1)) || (ms.getD q.1 0).testBit p.1) && apartO (dstOf ops p.1) (dstOf ops q.1)
def pairsB (ops : List Oper) (ms : List Nat) : List (Nat × Kd) → Bool
  | [] => true
  | p :: l => l.all (pairB ops ms p) && pairsB ops ms l
def okD (ops : List Oper) (l : List Item) : Bool :=
  Nat.beq (l.filterMap (kdOf ops)).length ops.length && (List.range ops.length).all (fun i => (l.filterMap (kdOf ops)).any (fun p => Nat.beq p.1 i)) &&
  (l.filterMap (kdOf ops)).all (fun p => Nat.blt p.1 ops.length && !((masks ops []).getD p.1 0).testBit p.1) &&
  ops.all (fun o => o.after.toList.all (fun e => !Region.binds .any e || Nat.blt e.on ops.length)) &&
  pairsB ops (masks ops []) (l.filterMap (kdOf ops))
/-- what a region makes of the frame's own: the operation's number, its slot -/
def ownsOf (ops : List Oper) : List Item → List (Nat × Nat)
  | [] => []
  | .opL i :: l => match dstOf ops i with | some d => (i, d) :: ownsOf ops l | none => ownsOf ops l
  | _ :: l => ownsOf ops l
def actsOf (ops : List Oper) (l : List Item) : List Nat := (l.filterMap (kdOf ops)).filterMap fun p => match p.2 with | .act => some p.1 | _ => none
def kmin (acts : List Nat) (m : Nat) : Nat := (acts.filter (fun j => m.testBit j)).length
/-- nothing of what a region will make is about -/
def freshB (mk : List (Nat × Nat)) (T : List (Option FV)) (L : List (Option LC)) : Bool :=
  mk.all fun p => noRef p.2 T && (match look L p.2 with | none => true | some _ => false)
/-- an address of what the region makes: only behind its making -/
def okRef (mk : List (Nat × Nat)) (m : Nat) (x : FV) : Bool := match x with
  | .lptr d _ => mk.all fun p => !Nat.beq p.2 d || m.testBit p.1
  | _ => true
/-- the same value at each of so many elder snapshots -/
def sameThen (T : List (Option FV)) (op : Op) (v : AV) (K : R) : Nat → List (List (Option LC) × H) → R
  | 0, _ => K
  | n + 1, s :: l => simple P T s.1 s.2 (fun x _ _ => match x with | .v y => guardB (sameAV v y) (sameThen T op v K n l) | _ => none) op
  | _ + 1, [] => none
abbrev Snaps := List (List (Option LC) × H)
def itemD (call : Nat → List AV → H → R) (ops : List Oper) (ms : List Nat) (mk : List (Nat × Nat)) (acts : List Nat) (it : Item) (k : Nat) (ss : Snaps) (T : List (Option FV)) (L : List (Option LC)) (h : H) (K : Nat → Snaps → List (Option FV) → List (Option LC) → H → R) : R :=
  match it with
  | .split d => match look T d with
    | some (.v (.bool b)) => ifB b (K k ss (setAt T d (.v (.bool true))) L h) (K k ss (setAt T d (.v (.bool false))) L h)
    | some (.v (.tuple [])) => K k ss T L h
    | _ => none
  | .op i => match ops[i]? with
    | none => none
    | some o => match wantedA ops T o with
      | none => none
      | some false => putK T .other o.dst (.v undef) (fun T => match isPure o.op || isRead o.op with | true => K k ss T L h | false => K (k + 1) ((L, h) :: ss) T L h)
      | some true => match isCall o.op with
        | true => callOp P call T h (fun v h => putK T (formT P o.type) o.dst (.v v) (fun T => K (k + 1) ((L, h) :: ss) T L h)) o.op
        | false => match isPure o.op with
          | true => simple P T L h (fun v L h => guardB (okRef mk (ms.getD i 0) v) (putK T (formT P o.type) o.dst v (fun T => K k ss T L h))) o.op
          | false => match isRead o.op with
            | true => match ss with
              | _ :: ss' => simple P T L h (fun v _ _ => match v with
                | .v y => sameThen P T o.op y (putK T (formT P o.type) o.dst (.v y) (fun T => K k ss T L h)) (k - kmin acts (ms.getD i 0)) ss'
                | _ => none) o.op
              | [] => none
            | false => simple P T L h (fun v L h => match v with
              | .v y => putK T (formT P o.type) o.dst (.v y) (fun T => K (k + 1) ((L, h) :: ss) T L h)
              | _ => none) o.op
  | .opL i => match ops[i]? with
    | none => none
    | some o => match wantedA ops T o, o.dst with
      | some true, some d => match noRef d T, Nat.blt d T.length with
        | true, true => localOp P T L h d (fun v L h => K k ss (setAt T d v) L h) o.op
        | _, _ => none
      | some false, dst => putK T .other dst (.v undef) (fun T => K k ss T L h)
      | _, _ => none
def itemsD (call : Nat → List AV → H → R) (ops : List Oper) (ms : List Nat) (mk : List (Nat × Nat)) (acts : List Nat) : List Item → Nat → Snaps → List (Option FV) → List (Option LC) → H → (List (Option FV) → List (Option LC) → H → R) → R
  | [], _, _, T, L, h, K => K T L h
  | it :: l, k, ss, T, L, h, K => itemD P call ops ms mk acts it k ss T L h (fun k ss T L h => itemsD call ops ms mk acts l k ss T L h K)
/-- what is kept where ways meet -/
def keepT (l : List Nat) (T : List (Option FV)) : List (Option FV) := go l (blank T.length)
where
  go : List Nat → List (Option FV) → List (Option FV)
    | [], N => N
    | d :: l, N => match look T d with | some x => go l (setAt N d x) | none => go l N
def keepL (l : List Nat) (L : List (Option LC)) : List (Option LC) := go l (blank L.length)
where
  go : List Nat → List (Option LC) → List (Option LC)
    | [], N => N
    | d :: l, N => match look L d with | some x => go l (setAt N d x) | none => go l N
/-- what the code's text does not say: where ways meet, what is kept there, how a region is walked -/
inductive Ann where
  | leaf
  | two (a b : Ann)
  | join (t l : List Nat) (a b : Ann)
  | one (a : Ann)
  | meet (t l : List Nat) (a : Ann)
  | items (l : List Item)
  | drawn (l : List Item)
abbrev K3 := List (Option FV) → List (Option LC) → H → R
def iter (f : K3 → K3) (n : Nat) : K3 := Nat.rec (motive := fun _ => K3) (fun _ _ _ => none) (fun _ ih => f ih) n
theorem iter_succ (f : K3 → K3) (n : Nat) (T : List (Option FV)) (L : List (Option LC)) (h : H) : iter f (n + 1) T L h = f (iter f n) T L h := rfl
theorem iter_zero (f : K3 → K3) (T : List (Option FV)) (L : List (Option LC)) (h : H) : iter f 0 T L h = none := rfl
def codeK (N : Nat) (call : Nat → List AV → H → R) : Code → Ann → (kn : K3) → (kx : Nat → K3) → (kr : K3) → K3
  | .skip, _, kn, _, _ => kn
  | .ret, _, _, _, kr => kr
  | .exit id, _, _, kx, _ => kx id
  | .seq a b, .two x y, kn, kx, kr => codeK N call a x (codeK N call b y kn kx kr) kx kr
  | .seq a b, .join t l x y, kn, kx, kr => codeK N call a x (fun T L h => codeK N call b y kn kx kr (keepT t T) (keepL l L) h) kx kr
  | .cond c a b, .two x y, kn, kx, kr => fun T L h => match opd T c with
    | some (.bool e) => ifB e (codeK N call a x kn kx kr T L h) (codeK N call b y kn kx kr T L h)
    | _ => none
  | .block id c, .one x, kn, kx, kr => codeK N call c x kn (fun i T L h => match Nat.beq i id with | true => kn T L h | false => kx i T L h) kr
  | .block id c, .meet t l x, kn, kx, kr =>
    codeK N call c x (fun T L h => kn (keepT t T) (keepL l L) h) (fun i T L h => match Nat.beq i id with | true => kn (keepT t T) (keepL l L) h | false => kx i T L h) kr
  | .loop c, .meet t l x, _, kx, kr => fun T L h =>
    iter (fun self => codeK N call c x (fun T L h => self (keepT t T) (keepL l L) h) kx kr) N (keepT t T) (keepL l L) h
  | .region _ ops false, .items l, kn, _, _ => match countUp 0 (idxs l) ops.size with
    | true => fun T L h => itemsK P call ops.toList l T L h kn
    | false => fun _ _ _ => none
  | .region _ ops true, .drawn l, kn, _, _ => match okD ops.toList l with
    | true => fun T L h => guardB (freshB (ownsOf ops.toList l) T L) (itemsD P call ops.toList (masks ops.toList []) (ownsOf ops.toList l) (actsOf ops.toList l) l 0 [(L, h)] T L h kn)
    | false => fun _ _ _ => none
  | _, _, _, _, _ => fun _ _ _ => none
def resOne (T : List (Option FV)) (L : List (Option LC)) (h : H) (r : ResultVar) (f : AV → R) : R :=
  match r with
  | .tmp t => match look T t with | some (.v x) => f x | _ => none
  | .cell a t => loadK P T L h t (.tmp a) f
def resAll (T : List (Option FV)) (L : List (Option LC)) (h : H) : List ResultVar → (List AV → R) → R
  | [], f => f []
  | r :: l, f => resOne P T L h r (fun v => resAll T L h l (fun vs => f (v :: vs)))
def resK (rs : List ResultVar) (T : List (Option FV)) (L : List (Option LC)) (h : H) : R :=
  match rs with
  | [r] => resOne P T L h r (fun v => some (v, h))
  | rs => resAll P T L h rs (fun vs => some (.tuple vs, h))
def startT : List TypeId → List AV → List (Option FV) → (List (Option FV) → R) → R
  | [], [], T, K => K T
  | t :: ts, x :: xs, T, K => chk (formT P t) x (fun x => startT ts xs T (fun T => K (some (.v x) :: T)))
  | [], x :: xs, T, K => onPtr x (fun a => onSome a (fun b o => startT [] xs T (fun T => K (some (.v (.ptr (some (b, o)))) :: T))))
  | _ :: _, [], _, _ => none
/-- a function's body, whom it calls being given -/
def body (N : Nat) (call : Nat → List AV → H → R) (fn : Func) (an : Ann) (as : List AV) (h : H) : R :=
  match fn.body, Nat.beq as.length (fn.params.size + fn.nfree) && Nat.ble as.length fn.ntmps with
  | some c, true => startT P fn.params.toList as (blank (fn.ntmps - as.length)) (fun T =>
      codeK P N call c an (resK P fn.results.toList) (fun _ _ _ _ => none) (resK P fn.results.toList) T (blank fn.ntmps) h)
  | _, _ => none
/-- a function's body by its code's run -/
def bodyK (fn : Func) (K : K3) (as : List AV) (h : H) : R :=
  match fn.body, Nat.beq as.length (fn.params.size + fn.nfree) && Nat.ble as.length fn.ntmps with
  | some _, true => startT P fn.params.toList as (blank (fn.ntmps - as.length)) (fun T => K T (blank fn.ntmps) h)
  | _, _ => none
/-- a name's order, the last one first (kinds.order): rows of three cells -/
def natDecls (c : T5 AV) (o : Nat) (n : Nat) : Option (List (List Nat × Int)) :=
  Nat.rec (motive := fun _ => Option (List (List Nat × Int))) (some []) (fun m ih => match ih with
    | none => none
    | some L => match c.get (o + m * 3) with
      | some (.str s) => match c.get (o + m * 3 + 1) with
        | some (.int .i64 i) => match c.get (o + m * 3 + 2) with
          | some (.int .i64 _) => some ((s, i) :: L)
          | _ => none
        | _ => none
      | _ => none) n
def findOrder (nm : List Nat) (L : List (List Nat × Int)) : Int :=
  List.rec (motive := fun _ => Int) (Int.negSucc 0) (fun p _ ih => match eqS p.1 nm with | true => p.2 | false => ih) L
def natOrder (vs : List AV) (h : H) : R := row2 (fun x y => onSlice x (fun a n _ => onStr y (fun nm => match a with
  | none => some (.int .i64 (Int.negSucc 0), h)
  | some (b, o) => match h.get b with
    | some (.cells k c _) => guardB (Nat.ble (o + n * 3) k && Nat.ble n 1099511627776) (onOpt (natDecls c o n) (fun L => some (.int .i64 (findOrder nm L), h)))
    | _ => none))) vs
/-- parts of a code -/
def c1 : Code → Code
  | .seq a _ => a | .cond _ a _ => a | .block _ a => a | .loop a => a | c => c
def c2 : Code → Code
  | .seq _ b => b | .cond _ _ b => b | c => c
def cOf : Code → Operand
  | .cond c _ _ => c | _ => .const (.tuple #[])
def condK (c : Operand) (A B : K3) : K3 := fun T L h => match opd T c with
  | some (.bool e) => ifB e (A T L h) (B T L h)
  | _ => none
def bodyOf (fn : Func) : Code := match fn.body with | some c => c | none => .skip
theorem body_eq (N : Nat) (call : Nat → List AV → H → R) (fn : Func) (an : Ann) (as : List AV) (h : H) {K : K3}
    (hK : codeK P N call (bodyOf fn) an (resK P fn.results.toList) (fun _ _ _ _ => none) (resK P fn.results.toList) = K) : body P N call fn an as h = bodyK P fn K as h := by
  subst hK
  unfold body bodyK bodyOf
  generalize (Nat.beq as.length (fn.params.size + fn.nfree) && Nat.ble as.length fn.ntmps) = b
  cases fn.body <;> cases b <;> rfl
/-- calls, so deep -/
def callN (N : Nat) (A : Nat → Option (Ann ⊕ (List AV → H → R))) (n : Nat) : Nat → List AV → H → R :=
  Nat.rec (motive := fun _ => Nat → List AV → H → R) (fun _ _ _ => none)
    (fun _ ih f as h => match P.funcs[f]?, A f with
      | some fn, some (.inl an) => body P N ih fn an as h
      | some _, some (.inr g) => g as h
      | _, _ => none) n
end
/-- a call with another number of values than the function takes has no answer -/
theorem body_len (P : Program) {N : Nat} {call : Nat → List AV → H → R} {fn : Func} {an : Ann} {as : List AV} {h : H} (hl : Nat.beq as.length (fn.params.size + fn.nfree) = false) : body P N call fn an as h = none := by
  unfold body
  rw [hl]
  cases fn.body <;> rfl
theorem wrap0 {P : Program} {N : Nat} {call : Nat → List AV → H → R} {fn : Func} {an : Ann} {h : H} {F : R} (hl : fn.params.size + fn.nfree = 0) (hz : body P N call fn an [] h = F) (as : List AV) : body P N call fn an as h = row0 F as := by
  cases as with
  | nil => exact hz
  | cons b bs => exact body_len P (by rw [hl]; rfl)
theorem wrap1 {P : Program} {N : Nat} {call : Nat → List AV → H → R} {fn : Func} {an : Ann} {h : H} {F : AV → R} (hl : fn.params.size + fn.nfree = 1) (hz : ∀ a0, body P N call fn an [a0] h = F a0) (as : List AV) : body P N call fn an as h = row1 F as := by
  cases as with
  | nil => exact body_len P (by rw [hl]; rfl)
  | cons a0 as0 =>
    cases as0 with
    | nil => exact hz a0
    | cons b bs => exact body_len P (by rw [hl]; rfl)
theorem wrap2 {P : Program} {N : Nat} {call : Nat → List AV → H → R} {fn : Func} {an : Ann} {h : H} {F : AV → AV → R} (hl : fn.params.size + fn.nfree = 2) (hz : ∀ a0 a1, body P N call fn an [a0, a1] h = F a0 a1) (as : List AV) : body P N call fn an as h = row2 F as := by
  cases as with
  | nil => exact body_len P (by rw [hl]; rfl)
  | cons a0 as0 =>
    cases as0 with
    | nil => exact body_len P (by rw [hl]; rfl)
    | cons a1 as1 =>
      cases as1 with
      | nil => exact hz a0 a1
      | cons b bs => exact body_len P (by rw [hl]; rfl)
theorem wrap3 {P : Program} {N : Nat} {call : Nat → List AV → H → R} {fn : Func} {an : Ann} {h : H} {F : AV → AV → AV → R} (hl : fn.params.size + fn.nfree = 3) (hz : ∀ a0 a1 a2, body P N call fn an [a0, a1, a2] h = F a0 a1 a2) (as : List AV) : body P N call fn an as h = row3 F as := by
  cases as with
  | nil => exact body_len P (by rw [hl]; rfl)
  | cons a0 as0 =>
    cases as0 with
    | nil => exact body_len P (by rw [hl]; rfl)
    | cons a1 as1 =>
      cases as1 with
      | nil => exact body_len P (by rw [hl]; rfl)
      | cons a2 as2 =>
        cases as2 with
        | nil => exact hz a0 a1 a2
        | cons b bs => exact body_len P (by rw [hl]; rfl)
theorem wrap4 {P : Program} {N : Nat} {call : Nat → List AV → H → R} {fn : Func} {an : Ann} {h : H} {F : AV → AV → AV → AV → R} (hl : fn.params.size + fn.nfree = 4) (hz : ∀ a0 a1 a2 a3, body P N call fn an [a0, a1, a2, a3] h = F a0 a1 a2 a3) (as : List AV) : body P N call fn an as h = row4 F as := by
  cases as with
  | nil => exact body_len P (by rw [hl]; rfl)
  | cons a0 as0 =>
    cases as0 with
    | nil => exact body_len P (by rw [hl]; rfl)
    | cons a1 as1 =>
      cases as1 with
      | nil => exact body_len P (by rw [hl]; rfl)
      | cons a2 as2 =>
        cases as2 with
        | nil => exact body_len P (by rw [hl]; rfl)
        | cons a3 as3 =>
          cases as3 with
          | nil => exact hz a0 a1 a2 a3
          | cons b bs => exact body_len P (by rw [hl]; rfl)
theorem wrap5 {P : Program} {N : Nat} {call : Nat → List AV → H → R} {fn : Func} {an : Ann} {h : H} {F : AV → AV → AV → AV → AV → R} (hl : fn.params.size + fn.nfree = 5) (hz : ∀ a0 a1 a2 a3 a4, body P N call fn an [a0, a1, a2, a3, a4] h = F a0 a1 a2 a3 a4) (as : List AV) : body P N call fn an as h = row5 F as := by
  cases as with
  | nil => exact body_len P (by rw [hl]; rfl)
  | cons a0 as0 =>
    cases as0 with
    | nil => exact body_len P (by rw [hl]; rfl)
    | cons a1 as1 =>
      cases as1 with
      | nil => exact body_len P (by rw [hl]; rfl)
      | cons a2 as2 =>
        cases as2 with
        | nil => exact body_len P (by rw [hl]; rfl)
        | cons a3 as3 =>
          cases as3 with
          | nil => exact body_len P (by rw [hl]; rfl)
          | cons a4 as4 =>
            cases as4 with
            | nil => exact hz a0 a1 a2 a3 a4
            | cons b bs => exact body_len P (by rw [hl]; rfl)
theorem wrap6 {P : Program} {N : Nat} {call : Nat → List AV → H → R} {fn : Func} {an : Ann} {h : H} {F : AV → AV → AV → AV → AV → AV → R} (hl : fn.params.size + fn.nfree = 6) (hz : ∀ a0 a1 a2 a3 a4 a5, body P N call fn an [a0, a1, a2, a3, a4, a5] h = F a0 a1 a2 a3 a4 a5) (as : List AV) : body P N call fn an as h = row6 F as := by
  cases as with
  | nil => exact body_len P (by rw [hl]; rfl)
  | cons a0 as0 =>
    cases as0 with
    | nil => exact body_len P (by rw [hl]; rfl)
    | cons a1 as1 =>
      cases as1 with
      | nil => exact body_len P (by rw [hl]; rfl)
      | cons a2 as2 =>
        cases as2 with
        | nil => exact body_len P (by rw [hl]; rfl)
        | cons a3 as3 =>
          cases as3 with
          | nil => exact body_len P (by rw [hl]; rfl)
          | cons a4 as4 =>
            cases as4 with
            | nil => exact body_len P (by rw [hl]; rfl)
            | cons a5 as5 =>
              cases as5 with
              | nil => exact hz a0 a1 a2 a3 a4 a5
              | cons b bs => exact body_len P (by rw [hl]; rfl)
theorem wrap7 {P : Program} {N : Nat} {call : Nat → List AV → H → R} {fn : Func} {an : Ann} {h : H} {F : AV → AV → AV → AV → AV → AV → AV → R} (hl : fn.params.size + fn.nfree = 7) (hz : ∀ a0 a1 a2 a3 a4 a5 a6, body P N call fn an [a0, a1, a2, a3, a4, a5, a6] h = F a0 a1 a2 a3 a4 a5 a6) (as : List AV) : body P N call fn an as h = row7 F as := by
  cases as with
  | nil => exact body_len P (by rw [hl]; rfl)
  | cons a0 as0 =>
    cases as0 with
    | nil => exact body_len P (by rw [hl]; rfl)
    | cons a1 as1 =>
      cases as1 with
      | nil => exact body_len P (by rw [hl]; rfl)
      | cons a2 as2 =>
        cases as2 with
        | nil => exact body_len P (by rw [hl]; rfl)
        | cons a3 as3 =>
          cases as3 with
          | nil => exact body_len P (by rw [hl]; rfl)
          | cons a4 as4 =>
            cases as4 with
            | nil => exact body_len P (by rw [hl]; rfl)
            | cons a5 as5 =>
              cases as5 with
              | nil => exact body_len P (by rw [hl]; rfl)
              | cons a6 as6 =>
                cases as6 with
                | nil => exact hz a0 a1 a2 a3 a4 a5 a6
                | cons b bs => exact body_len P (by rw [hl]; rfl)
theorem wrap8 {P : Program} {N : Nat} {call : Nat → List AV → H → R} {fn : Func} {an : Ann} {h : H} {F : AV → AV → AV → AV → AV → AV → AV → AV → R} (hl : fn.params.size + fn.nfree = 8) (hz : ∀ a0 a1 a2 a3 a4 a5 a6 a7, body P N call fn an [a0, a1, a2, a3, a4, a5, a6, a7] h = F a0 a1 a2 a3 a4 a5 a6 a7) (as : List AV) : body P N call fn an as h = row8 F as := by
  cases as with
  | nil => exact body_len P (by rw [hl]; rfl)
  | cons a0 as0 =>
    cases as0 with
    | nil => exact body_len P (by rw [hl]; rfl)
    | cons a1 as1 =>
      cases as1 with
      | nil => exact body_len P (by rw [hl]; rfl)
      | cons a2 as2 =>
        cases as2 with
        | nil => exact body_len P (by rw [hl]; rfl)
        | cons a3 as3 =>
          cases as3 with
          | nil => exact body_len P (by rw [hl]; rfl)
          | cons a4 as4 =>
            cases as4 with
            | nil => exact body_len P (by rw [hl]; rfl)
            | cons a5 as5 =>
              cases as5 with
              | nil => exact body_len P (by rw [hl]; rfl)
              | cons a6 as6 =>
                cases as6 with
                | nil => exact body_len P (by rw [hl]; rfl)
                | cons a7 as7 =>
                  cases as7 with
                  | nil => exact hz a0 a1 a2 a3 a4 a5 a6 a7
                  | cons b bs => exact body_len P (by rw [hl]; rfl)
theorem wrap9 {P : Program} {N : Nat} {call : Nat → List AV → H → R} {fn : Func} {an : Ann} {h : H} {F : AV → AV → AV → AV → AV → AV → AV → AV → AV → R} (hl : fn.params.size + fn.nfree = 9) (hz : ∀ a0 a1 a2 a3 a4 a5 a6 a7 a8, body P N call fn an [a0, a1, a2, a3, a4, a5, a6, a7, a8] h = F a0 a1 a2 a3 a4 a5 a6 a7 a8) (as : List AV) : body P N call fn an as h = row9 F as := by
  cases as with
  | nil => exact body_len P (by rw [hl]; rfl)
  | cons a0 as0 =>
    cases as0 with
    | nil => exact body_len P (by rw [hl]; rfl)
    | cons a1 as1 =>
      cases as1 with
      | nil => exact body_len P (by rw [hl]; rfl)
      | cons a2 as2 =>
        cases as2 with
        | nil => exact body_len P (by rw [hl]; rfl)
        | cons a3 as3 =>
          cases as3 with
          | nil => exact body_len P (by rw [hl]; rfl)
          | cons a4 as4 =>
            cases as4 with
            | nil => exact body_len P (by rw [hl]; rfl)
            | cons a5 as5 =>
              cases as5 with
              | nil => exact body_len P (by rw [hl]; rfl)
              | cons a6 as6 =>
                cases as6 with
                | nil => exact body_len P (by rw [hl]; rfl)
                | cons a7 as7 =>
                  cases as7 with
                  | nil => exact body_len P (by rw [hl]; rfl)
                  | cons a8 as8 =>
                    cases as8 with
                    | nil => exact hz a0 a1 a2 a3 a4 a5 a6 a7 a8
                    | cons b bs => exact body_len P (by rw [hl]; rfl)
end Go.Ev
end
end
section
/- Trees by number: what is read behind a store. -/
namespace Go.Ev
def pick4 {α : Type} (k : Nat) (a b c d : α) : α := match k with | 0 => a | 1 => b | 2 => c | _ => d
theorem T5.get_nil {α : Type} (n : Nat) : (T5.nil : T5 α).get n = none := rfl
theorem T5.get_zero {α : Type} (v : Option α) (a b c d : T5 α) : (T5.node v a b c d).get 0 = v := rfl
theorem T5.get_succ {α : Type} (v : Option α) (a b c d : T5 α) (m : Nat) :
    (T5.node v a b c d).get (m + 1) = (pick4 (m % 4) a b c d).get (m / 4) := by
  show (Nat.rec (motive := fun _ => Nat → Option α) a.get (fun k _ => Nat.rec (motive := fun _ => Nat → Option α) b.get (fun k _ => Nat.rec (motive := fun _ => Nat → Option α) c.get (fun _ _ => d.get) k) k) (m % 4)) (m / 4) = _
  generalize m % 4 = k
  match k with
  | 0 => rfl
  | 1 => rfl
  | 2 => rfl
  | k + 3 => rfl
theorem T5.setF_nil_zero {α : Type} (a : α) (f : Nat) : T5.setF a (f + 1) 0 .nil = .node (some a) .nil .nil .nil .nil := rfl
theorem T5.setF_node_zero {α : Type} (a : α) (f : Nat) (v : Option α) (p q r s : T5 α) : T5.setF a (f + 1) 0 (.node v p q r s) = .node (some a) p q r s := rfl
theorem T5.setF_nil_succ {α : Type} (a : α) (f m : Nat) : T5.setF a (f + 1) (m + 1) .nil =
    pick4 (m % 4) (.node none (T5.setF a f (m / 4) .nil) .nil .nil .nil) (.node none .nil (T5.setF a f (m / 4) .nil) .nil .nil) (.node none .nil .nil (T5.setF a f (m / 4) .nil) .nil) (.node none .nil .nil .nil (T5.setF a f (m / 4) .nil)) := by
  show (Nat.rec (motive := fun _ => T5 α) _ _ (m % 4)) = _
  generalize m % 4 = k
  match k with
  | 0 => rfl
  | 1 => rfl
  | 2 => rfl
  | k + 3 => rfl
theorem T5.setF_node_succ {α : Type} (a : α) (f m : Nat) (v : Option α) (p q r s : T5 α) : T5.setF a (f + 1) (m + 1) (.node v p q r s) =
    pick4 (m % 4) (.node v (T5.setF a f (m / 4) p) q r s) (.node v p (T5.setF a f (m / 4) q) r s) (.node v p q (T5.setF a f (m / 4) r) s) (.node v p q r (T5.setF a f (m / 4) s)) := by
  show (Nat.rec (motive := fun _ => T5 α) _ _ (m % 4)) = _
  generalize m % 4 = k
  match k with
  | 0 => rfl
  | 1 => rfl
  | 2 => rfl
  | k + 3 => rfl
theorem mod4 (m : Nat) : m % 4 = 0 ∨ m % 4 = 1 ∨ m % 4 = 2 ∨ m % 4 = 3 := by omega
theorem T5.get_setF_same {α : Type} (a : α) : ∀ (f n : Nat) (t : T5 α), n < f → (T5.setF a f n t).get n = some a := by
  intro f
  induction f with
  | zero => intro n t h; omega
  | succ f ih =>
    intro n t h
    cases n with
    | zero => cases t <;> rfl
    | succ m =>
      have hm : m / 4 < f := by omega
      cases t with
      | nil =>
        rw [T5.setF_nil_succ]
        rcases mod4 m with e | e | e | e <;> rw [e] <;> simp only [pick4] <;> rw [T5.get_succ, e] <;> exact ih _ _ hm
      | node v p q r s =>
        rw [T5.setF_node_succ]
        rcases mod4 m with e | e | e | e <;> rw [e] <;> simp only [pick4] <;> rw [T5.get_succ, e] <;> exact ih _ _ hm
theorem T5.get_setF_ne {α : Type} (a : α) : ∀ (f n m : Nat) (t : T5 α), n < f → m ≠ n → (T5.setF a f n t).get m = t.get m := by
  intro f
  induction f with
  | zero => intro n m t h; omega
  | succ f ih =>
    intro n m t h hne
    cases n with
    | zero =>
      cases m with
      | zero => exact absurd rfl hne
      | succ m =>
        cases t with
        | nil => rw [T5.setF_nil_zero, T5.get_succ]; rcases mod4 m with e | e | e | e <;> rw [e] <;> rfl
        | node v p q r s => rw [T5.setF_node_zero, T5.get_succ, T5.get_succ]
    | succ n =>
      have hn : n / 4 < f := by omega
      cases t with
      | nil =>
        rw [T5.setF_nil_succ, T5.get_nil]
        cases m with
        | zero => rcases mod4 n with e | e | e | e <;> rw [e] <;> rfl
        | succ m =>
          by_cases hk : m % 4 = n % 4
          · have hd : m / 4 ≠ n / 4 := by omega
            rcases mod4 n with e | e | e | e <;> rw [e] <;> simp only [pick4] <;> rw [T5.get_succ, hk, e] <;> simp only [pick4] <;> rw [ih _ _ _ hn hd] <;> rfl
          · rcases mod4 n with e | e | e | e <;> rw [e] at hk <;> rw [e] <;> simp only [pick4] <;> rw [T5.get_succ] <;> rcases mod4 m with e' | e' | e' | e' <;> first | (exact absurd e' hk) | (rw [e']; rfl)
      | node v p q r s =>
        rw [T5.setF_node_succ]
        cases m with
        | zero => rcases mod4 n with e | e | e | e <;> rw [e] <;> rfl
        | succ m =>
          rw [T5.get_succ]
          by_cases hk : m % 4 = n % 4
          · have hd : m / 4 ≠ n / 4 := by omega
            rcases mod4 n with e | e | e | e <;> rw [e] <;> simp only [pick4] <;> rw [T5.get_succ, hk, e] <;> simp only [pick4] <;> exact ih _ _ _ hn hd
          · rcases mod4 n with e | e | e | e <;> rw [e] at hk <;> rw [e] <;> simp only [pick4] <;> rw [T5.get_succ] <;> rcases mod4 m with e' | e' | e' | e' <;> first | (exact absurd e' hk) | (rw [e']; rfl)
theorem T5.get_set_same {α : Type} (t : T5 α) (n : Nat) (a : α) : (t.set n a).get n = some a := T5.get_setF_same a _ _ _ (Nat.lt_succ_self n)
theorem T5.get_set_ne {α : Type} (t : T5 α) {n m : Nat} (a : α) (h : m ≠ n) : (t.set n a).get m = t.get m := T5.get_setF_ne a _ _ _ _ (Nat.lt_succ_self n) h
/-- a row laid from a place on -/
theorem rowFrom_nil (t : T5 AV) (i : Nat) : rowFrom t i [] = t := rfl
theorem rowFrom_cons (t : T5 AV) (i : Nat) (v : AV) (l : List AV) : rowFrom t i (v :: l) = rowFrom (t.set i v) (i + 1) l := rfl
theorem rowFrom_get (l : List AV) : ∀ (t : T5 AV) (i j : Nat), (rowFrom t i l).get j = if i ≤ j ∧ j < i + l.length then l[j - i]? else t.get j := by
  induction l with
  | nil => intro t i j; rw [rowFrom_nil, if_neg (by simp only [List.length_nil]; omega)]
  | cons v l ih =>
    intro t i j
    rw [rowFrom_cons, ih]
    by_cases h1 : i + 1 ≤ j ∧ j < i + 1 + l.length
    · rw [if_pos h1, if_pos ⟨by omega, by simp; omega⟩]
      have : j - i = (j - (i + 1)) + 1 := by omega
      rw [this, List.getElem?_cons_succ]
    · rw [if_neg h1]
      by_cases h2 : j = i
      · subst h2
        rw [T5.get_set_same, if_pos ⟨Nat.le_refl _, by simp⟩]
        simp
      · rw [T5.get_set_ne _ _ h2, if_neg (by simp at h1 ⊢; omega)]
theorem look_setAt_same {α : Type} (l : List (Option α)) (n : Nat) (a : α) (h : n < l.length) : look (setAt l n a) n = some a := by
  induction l generalizing n with
  | nil => simp at h
  | cons x l ih => cases n with
    | zero => rfl
    | succ n => exact ih n (by simp at h; omega)
theorem look_setAt_ne {α : Type} (l : List (Option α)) (n m : Nat) (a : α) (h : m ≠ n) : look (setAt l n a) m = look l m := by
  induction l generalizing n m with
  | nil => rfl
  | cons x l ih => cases n with
    | zero => cases m with
      | zero => exact absurd rfl h
      | succ m => rfl
    | succ n => cases m with
      | zero => rfl
      | succ m => exact ih n m (by omega)
theorem length_setAt {α : Type} (l : List (Option α)) (n : Nat) (a : α) : (setAt l n a).length = l.length := by
  induction l generalizing n with
  | nil => rfl
  | cons x l ih => cases n with
    | zero => rfl
    | succ n => simp [setAt, ih]
theorem look_blank {α : Type} (n m : Nat) : look (blank n : List (Option α)) m = none := by
  induction n generalizing m with
  | zero => rfl
  | succ n ih => cases m with
    | zero => rfl
    | succ m => exact ih m
theorem length_blank {α : Type} (n : Nat) : (blank n : List (Option α)).length = n := by
  induction n with
  | zero => rfl
  | succ n ih => simp [blank, ih]
theorem look_lt {α : Type} {l : List (Option α)} {n : Nat} {a : α} (h : look l n = some a) : n < l.length := by
  induction l generalizing n with
  | nil => cases h
  | cons x l ih => cases n with
    | zero => simp
    | succ n => have := ih (n := n) h; simp; omega
end Go.Ev
end
section
/- What an abstract value, block, heap and frame say of the machine's. -/
namespace Go.Ev
/-- where a block lies; of a grown row, how many elements it has room for -/
structure Phi where
  f : Nat → Option (Nat × Nat)
  g : Nat → Option Nat
instance : CoeFun Phi (fun _ => Nat → Option (Nat × Nat)) := ⟨Phi.f⟩
def flatV : Value → Bool
  | .agg _ | .tuple _ => false
  | _ => true
def CapRel (C : Option Nat) (c : Option Nat) (n cc : Nat) : Prop := match c with | some x => cc = x ∧ n ≤ x | none => n ≤ cc ∧ ∃ x, C = some x ∧ cc ≤ x
theorem CapRel.mono {C C' c : Option Nat} {n cc : Nat} (h : CapRel C c n cc) (hC : ∀ x, C = some x → C' = some x) : CapRel C' c n cc := by
  cases c with
  | some x => exact h
  | none => obtain ⟨h1, x, h2, h3⟩ := h; exact ⟨h1, x, hC x h2, h3⟩
mutual
inductive VRel (φ : Phi) : AV → Value → Prop
  | bool (b : Bool) : VRel φ (.bool b) (.bool b)
  | int (k : IntKind) (n : Int) : VRel φ (.int k n) (.int k n)
  | str (s : List Nat) (b : ByteArray) : b.data.toList.map UInt8.toNat = s → VRel φ (.str s) (.string b)
  | ptr0 : VRel φ (.ptr none) (.pointer none)
  | ptr (b o r ro : Nat) : φ b = some (r, ro) → VRel φ (.ptr (some (b, o))) (.pointer (some ⟨r, ro + o, none⟩))
  | slice0 : VRel φ (.slice none 0 (some 0)) (.slice none 0 0)
  | slice (b o n : Nat) (c : Option Nat) (r ro cc : Nat) : φ b = some (r, ro) → CapRel (φ.g b) c n cc → VRel φ (.slice (some (b, o)) n c) (.slice (some ⟨r, ro + o, none⟩) n cc)
  | map0 : VRel φ (.map none) (.map none)
  | map (b r : Nat) : φ b = some (r, 0) → VRel φ (.map (some b)) (.map (some r))
  | func (f : Nat) (a c : List AV) (as cs : List Value) : LRel φ a as → LRel φ c cs → VRel φ (.func f a c) (.func (.func f) as.toArray cs.toArray)
  | nilFunc : VRel φ .nilFunc .nilFunc
  | iface (t : Nat) (x : AV) (v : Value) : VRel φ x v → VRel φ (.iface t x) (.iface t v)
  | nilIface : VRel φ .nilIface .nilIface
  | agg (l : List AV) (vs : List Value) : LRel φ l vs → (∀ v ∈ vs, flatV v = true) → VRel φ (.agg l) (.agg vs.toArray)
  | tuple (l : List AV) (vs : List Value) : LRel φ l vs → VRel φ (.tuple l) (.tuple vs.toArray)
inductive LRel (φ : Phi) : List AV → List Value → Prop
  | nil : LRel φ [] []
  | cons (x : AV) (v : Value) (l : List AV) (vs : List Value) : VRel φ x v → LRel φ l vs → LRel φ (x :: l) (v :: vs)
end
structure Phi.le (φ φ' : Phi) : Prop where
  at_ : ∀ b p, φ b = some p → φ' b = some p
  room : ∀ b x, φ.g b = some x → φ'.g b = some x
theorem Phi.le_refl (φ : Phi) : φ.le φ := ⟨fun _ _ h => h, fun _ _ h => h⟩
theorem Phi.le_trans {φ φ' φ'' : Phi} (h : φ.le φ') (h' : φ'.le φ'') : φ.le φ'' := ⟨fun b p e => h'.1 b p (h.1 b p e), fun b p e => h'.2 b p (h.2 b p e)⟩
mutual
theorem VRel.mono {φ φ' : Phi} (h : φ.le φ') : ∀ {x v}, VRel φ x v → VRel φ' x v
  | _, _, .bool b => .bool b
  | _, _, .int k n => .int k n
  | _, _, .str s b e => .str s b e
  | _, _, .ptr0 => .ptr0
  | _, _, .ptr b o r ro e => .ptr b o r ro (h.1 _ _ e)
  | _, _, .slice0 => .slice0
  | _, _, .slice b o n c r ro cc e hc => .slice b o n c r ro cc (h.1 _ _ e) (hc.mono (h.2 b))
  | _, _, .map0 => .map0
  | _, _, .map b r e => .map b r (h.1 _ _ e)
  | _, _, .func f a c as cs ha hc => .func f a c as cs (LRel.mono h ha) (LRel.mono h hc)
  | _, _, .nilFunc => .nilFunc
  | _, _, .iface t x v hx => .iface t x v (VRel.mono h hx)
  | _, _, .nilIface => .nilIface
  | _, _, .agg l vs hl hf => .agg l vs (LRel.mono h hl) hf
  | _, _, .tuple l vs hl => .tuple l vs (LRel.mono h hl)
theorem LRel.mono {φ φ' : Phi} (h : φ.le φ') : ∀ {l vs}, LRel φ l vs → LRel φ' l vs
  | _, _, .nil => .nil
  | _, _, .cons x v l vs hx hl => .cons x v l vs (VRel.mono h hx) (LRel.mono h hl)
end
theorem LRel.length {φ : Phi} : ∀ {l vs}, LRel φ l vs → l.length = vs.length
  | _, _, .nil => rfl
  | _, _, .cons _ _ _ _ _ hl => by simp [LRel.length hl]
theorem LRel.get {φ : Phi} : ∀ {l vs}, LRel φ l vs → ∀ (i : Nat) (x : AV), l[i]? = some x → ∃ v, vs[i]? = some v ∧ VRel φ x v
  | _, _, .nil, i, x, h => by simp at h
  | _, _, .cons y v l vs hy hl, 0, x, h => by simp at h; subst h; exact ⟨v, rfl, hy⟩
  | _, _, .cons y v l vs hy hl, i + 1, x, h => by simpa using LRel.get hl i x (by simpa using h)
theorem LRel.append {φ : Phi} : ∀ {l vs k us}, LRel φ l vs → LRel φ k us → LRel φ (l ++ k) (vs ++ us)
  | _, _, _, _, .nil, hk => hk
  | _, _, _, _, .cons x v l vs hx hl, hk => .cons x v _ _ hx (LRel.append hl hk)
theorem LRel.drop {φ : Phi} : ∀ (n : Nat) {l vs}, LRel φ l vs → LRel φ (l.drop n) (vs.drop n)
  | 0, _, _, h => h
  | _ + 1, _, _, .nil => .nil
  | n + 1, _, _, .cons _ _ _ _ _ hl => LRel.drop n hl
theorem LRel.take {φ : Phi} : ∀ (n : Nat) {l vs}, LRel φ l vs → LRel φ (l.take n) (vs.take n)
  | 0, _, _, _ => .nil
  | _ + 1, _, _, .nil => .nil
  | n + 1, _, _, .cons x v l vs hx hl => .cons x v _ _ hx (LRel.take n hl)
theorem LRel.set {φ : Phi} {x : AV} {v : Value} (hx : VRel φ x v) : ∀ (n : Nat) {l vs}, LRel φ l vs → LRel φ (l.set n x) (vs.set n v)
  | _, _, _, .nil => .nil
  | 0, _, _, .cons _ _ _ _ _ hl => .cons _ _ _ _ hx hl
  | n + 1, _, _, .cons _ _ _ _ hy hl => .cons _ _ _ _ hy (LRel.set hx n hl)
/-- what is not joined of cells on one side is not on the other -/
theorem VRel.flat {φ : Phi} {x : AV} {v : Value} (h : VRel φ x v) : flatV v = (match x with | .agg _ => false | .tuple _ => false | _ => true) := by
  cases h <;> rfl
inductive QRel (φ : Phi) : List (AV × AV) → List (Value × Value) → Prop
  | nil : QRel φ [] []
  | cons (x y : AV) (u v : Value) (l : List (AV × AV)) (k : List (Value × Value)) : VRel φ x u → VRel φ y v → QRel φ l k → QRel φ ((x, y) :: l) ((u, v) :: k)
theorem QRel.mono {φ φ' : Phi} (h : φ.le φ') : ∀ {l k}, QRel φ l k → QRel φ' l k
  | _, _, .nil => .nil
  | _, _, .cons x y u v l k hx hy hl => .cons x y u v l k (VRel.mono h hx) (VRel.mono h hy) (QRel.mono h hl)
theorem QRel.length {φ : Phi} : ∀ {l k}, QRel φ l k → l.length = k.length
  | _, _, .nil => rfl
  | _, _, .cons _ _ _ _ _ _ _ _ hl => by simp [QRel.length hl]
theorem QRel.mem {φ : Phi} : ∀ {l k}, QRel φ l k → ∀ p ∈ k, ∃ q ∈ l, VRel φ q.1 p.1 ∧ VRel φ q.2 p.2
  | _, _, .nil, p, hp => by cases hp
  | _, _, .cons x y u v l k hx hy hl, p, hp => by
    cases hp with
    | head => exact ⟨(x, y), by simp, hx, hy⟩
    | tail _ hp => obtain ⟨q, h1, h2⟩ := QRel.mem hl p hp; exact ⟨q, by simp [h1], h2⟩
theorem QRel.append {φ : Phi} : ∀ {l k l' k'}, QRel φ l k → QRel φ l' k' → QRel φ (l ++ l') (k ++ k')
  | _, _, _, _, .nil, h => h
  | _, _, _, _, .cons x y u v l k hx hy hl, h => .cons x y u v _ _ hx hy (QRel.append hl h)
theorem QRel.split {φ : Phi} : ∀ (l : List (AV × AV)) {l' k}, QRel φ (l ++ l') k → ∃ k1 k2, k = k1 ++ k2 ∧ QRel φ l k1 ∧ QRel φ l' k2
  | [], _, k, h => ⟨[], k, rfl, .nil, h⟩
  | (x, y) :: l, _, _, h => by
    cases h with
    | cons _ _ u v _ k hx hy hl =>
      obtain ⟨k1, k2, e, h1, h2⟩ := QRel.split l hl
      exact ⟨(u, v) :: k1, k2, by rw [e]; rfl, .cons _ _ _ _ _ _ hx hy h1, h2⟩
def MRel (φ : Phi) (es : List (AV × AV)) (ents : List MapEntry) : Prop :=
  ∃ ks : List (Value × Value), QRel φ es ks ∧ ents.map (fun e => (e.key, e.val)) = ks.reverse ∧ es.Pairwise (fun p q => eqV 4 p.1 q.1 = some false)
/-- a block -/
def BRel (φ : Phi) (w : World) (b : Nat) : Blk → Prop
  | .cells n c own => ∃ r ro ws e fz, φ b = some (r, ro) ∧ w.heap[r]? = some (.cells ws e fz) ∧ ro + n ≤ ws.size ∧
      (∀ i x, i < n → c.get i = some x → ∃ v, ws[ro + i]? = some v ∧ VRel φ x v ∧ flatV v = true) ∧ (own = true → ro = 0 ∧ fz = (0, 0))
  | .map es => ∃ r ents clock, φ b = some (r, 0) ∧ w.heap[r]? = some (.map ents clock) ∧ MRel φ es ents.toList
  | .dead => True
/-- a block that may be written -/
def Own (h : H) (b : Nat) : Prop := (∃ n c, h.get b = some (.cells n c true)) ∨ (∃ es, h.get b = some (.map es))
def Ro (h : H) (b : Nat) : Prop := ∃ n c, h.get b = some (.cells n c false)
structure Ref (φ : Phi) (h : H) (w : World) : Prop where
  blk : ∀ b k, h.get b = some k → BRel φ w b k
  inj : ∀ b b' r o o', Own h b → Own h b' → φ b = some (r, o) → φ b' = some (r, o') → b = b'
  sep : ∀ b b' r o o', Own h b → Ro h b' → φ b = some (r, o) → φ b' = some (r, o') → False
  dom : ∀ b p, φ b = some p → b < h.next
  new : ∀ b, h.next ≤ b → h.get b = none
  glob : ∀ g, g < 100 → φ g = some (g, 0)
  room : ∀ b x, φ.g b = some x → b < h.next ∧ ∀ n c own r o, h.get b = some (.cells n c own) → φ b = some (r, o) → ∃ k z ws e fz, c.get n = some (.int k (.ofNat z)) ∧ w.heap[r]? = some (.cells ws e fz) ∧ x * z ≤ ws.size
/-- no block of the heap's own lies there -/
def Off (φ : Phi) (h : H) (r : Nat) : Prop := ∀ b o, Own h b → φ b ≠ some (r, o)
/-- what a step leaves alone -/
structure Fr (φ : Phi) (h : H) (w w' : World) : Prop where
  size : w.heap.size ≤ w'.heap.size
  keep : ∀ r, r < w.heap.size → Off φ h r → w'.heap[r]? = w.heap[r]?
  tape : w'.tape = w.tape
  os : w'.os = w.os
  output : w'.output = w.output
/-- the same, the frame's own variables apart -/
structure FrX (φ : Phi) (h : H) (lam : Nat → Nat) (L : List (Option LC)) (w w' : World) : Prop where
  size : w.heap.size ≤ w'.heap.size
  keep : ∀ r, r < w.heap.size → Off φ h r → (∀ d x, look L d = some x → r ≠ lam d) → w'.heap[r]? = w.heap[r]?
  tape : w'.tape = w.tape
  os : w'.os = w.os
  output : w'.output = w.output
theorem Fr.toX {φ : Phi} {h : H} {w w' : World} (f : Fr φ h w w') (lam : Nat → Nat) (L : List (Option LC)) : FrX φ h lam L w w' :=
  ⟨f.size, fun r hr ho _ => f.keep r hr ho, f.tape, f.os, f.output⟩
/-- how the heap has grown -/
structure Grow (φ : Phi) (h : H) (φ' : Phi) (h' : H) (w : World) : Prop where
  le : φ.le φ'
  own : ∀ b r o, Own h' b → φ' b = some (r, o) → w.heap.size ≤ r ∨ ¬ Off φ h r
  next : h.next ≤ h'.next
  old : ∀ b p, φ' b = some p → b < h.next → φ b = some p
  ro : ∀ b, Ro h' b → Ro h b
theorem Fr.refl (φ : Phi) (h : H) (w : World) : Fr φ h w w := ⟨Nat.le_refl _, fun _ _ _ => rfl, rfl, rfl, rfl⟩
theorem Own.mapped {φ : Phi} {h : H} {w : World} (hr : Ref φ h w) {b : Nat} (hb : Own h b) : ∃ r o, φ b = some (r, o) ∧ r < w.heap.size := by
  rcases hb with ⟨n, c, e⟩ | ⟨es, e⟩
  · obtain ⟨r, ro, ws, _, _, h1, h2, _⟩ := hr.blk b _ e
    exact ⟨r, ro, h1, (Array.getElem?_eq_some_iff.1 h2).1⟩
  · obtain ⟨r, ents, clock, h1, h2, _⟩ := hr.blk b _ e
    exact ⟨r, 0, h1, (Array.getElem?_eq_some_iff.1 h2).1⟩
theorem Grow.refl (φ : Phi) (h : H) (w : World) : Grow φ h φ h w :=
  ⟨Phi.le_refl φ, fun b _ o hb e => Or.inr (fun hoff => hoff b o hb e), Nat.le_refl _, fun _ _ e _ => e, fun _ hb => hb⟩
theorem Fr.trans {φ φ' : Phi} {h h' : H} {w w' w'' : World} (f : Fr φ h w w') (g : Grow φ h φ' h' w) (f' : Fr φ' h' w' w'') : Fr φ h w w'' := by
  refine ⟨Nat.le_trans f.size f'.size, fun r hr hoff => ?_, f'.tape.trans f.tape, f'.os.trans f.os, f'.output.trans f.output⟩
  rw [f'.keep r (Nat.lt_of_lt_of_le hr f.size) ?_, f.keep r hr hoff]
  intro b o hb e
  rcases g.own b r o hb e with h1 | h1
  · omega
  · exact h1 hoff
theorem Grow.trans {φ φ' φ'' : Phi} {h h' h'' : H} {w w' : World} (f : Fr φ h w w') (g : Grow φ h φ' h' w) (g' : Grow φ' h' φ'' h'' w') : Grow φ h φ'' h'' w := by
  refine ⟨Phi.le_trans g.le g'.le, fun b r o hb e => ?_, Nat.le_trans g.next g'.next, fun b p e hlt => g.old b p (g'.old b p e (Nat.lt_of_lt_of_le hlt g.next)) hlt, fun b hb => g.ro b (g'.ro b hb)⟩
  rcases g'.own b r o hb e with h1 | h1
  · exact Or.inl (Nat.le_trans f.size h1)
  · by_cases hlt : w.heap.size ≤ r
    · exact Or.inl hlt
    · refine Or.inr (fun hoff => h1 (fun b' o' hb' e' => ?_))
      rcases g.own b' r o' hb' e' with h2 | h2
      · omega
      · exact h2 hoff
/-- values of a frame -/
def FRel (φ : Phi) (lam : Nat → Nat) (h : H) (w : World) : FV → Value → Prop
  | .v x, v => VRel φ x v
  | .lptr d off, v => v = .pointer (some ⟨lam d, off, none⟩)
  | .lrow cs n, v => ∃ r ws e, v = .slice (some ⟨r, 0, none⟩) n n ∧ w.heap[r]? = some (.cells ws.toArray e (0, 0)) ∧ LRel φ cs ws ∧ (∀ u ∈ ws, flatV u = true) ∧ Off φ h r
/-- a variable of the frame's own -/
def CRel (φ : Phi) (w : World) (r : Nat) : LC → Prop
  | .cells cs => ∃ ws e, w.heap[r]? = some (.cells ws.toArray e (0, 0)) ∧ LRel φ cs ws ∧ (∀ u ∈ ws, flatV u = true)
  | .iter s p => ∃ b : ByteArray, w.heap[r]? = some (.stringIter b p) ∧ (b.data.toList.map UInt8.toNat).drop p = s ∧ p ≤ b.size
structure SRel (φ : Phi) (lam : Nat → Nat) (T : List (Option FV)) (L : List (Option LC)) (h : H) (tmps : Array Value) (w : World) : Prop where
  ref : Ref φ h w
  size : tmps.size = T.length
  val : ∀ s x, look T s = some x → ∃ v, tmps[s]? = some v ∧ FRel φ lam h w x v
  loc : ∀ d x, look L d = some x → CRel φ w (lam d) x ∧ Off φ h (lam d) ∧ lam d < w.heap.size
  inj : ∀ d d' x x', look L d = some x → look L d' = some x' → lam d = lam d' → d = d'
  ro : ∀ d x b o, look L d = some x → Ro h b → φ b ≠ some (lam d, o)
  row : ∀ s cs n d x v, look T s = some (.lrow cs n) → look L d = some x → tmps[s]? = some v → v ≠ .slice (some ⟨lam d, 0, none⟩) n n
end Go.Ev
end
section
/- What each operation does to the machine, by what the evaluator says. -/
namespace Go.Ev
theorem VRel.flatA_eq {φ : Phi} {x : AV} {v : Value} (h : VRel φ x v) : flatV v = flatA x := by cases h <;> rfl
theorem goF_rel {φ : Phi} {f : Value → Option AV} (hf : ∀ v x, f v = some x → VRel φ x v) : ∀ (vs : List Value) (l : List AV), cvN.goF f vs = some l → LRel φ l vs ∧ ∀ v ∈ vs, flatV v = true
  | [], l, h => by
    simp only [cvN.goF, Option.some.injEq] at h; subst h
    exact ⟨.nil, fun _ hv => by cases hv⟩
  | v :: vs, l, h => by
    simp only [cvN.goF] at h
    split at h
    · rename_i x hx
      split at h
      · rename_i k hfl hk
        simp only [Option.some.injEq] at h; subst h
        obtain ⟨h1, h2⟩ := goF_rel hf vs k hk
        have hv := hf v x hx
        refine ⟨.cons _ _ _ _ hv h1, fun u hu => ?_⟩
        cases hu with
        | head => rw [hv.flatA_eq, hfl]
        | tail _ hu => exact h2 u hu
      · cases h
    · cases h
theorem go_rel {φ : Phi} {f : Value → Option AV} (hf : ∀ v x, f v = some x → VRel φ x v) : ∀ (vs : List Value) (l : List AV), cvN.go f vs = some l → LRel φ l vs
  | [], l, h => by
    simp only [cvN.go, Option.some.injEq] at h; subst h; exact .nil
  | v :: vs, l, h => by
    simp only [cvN.go] at h
    split at h
    · rename_i x hx
      split at h
      · rename_i k hk
        simp only [Option.some.injEq] at h; subst h
        exact .cons _ _ _ _ (hf v x hx) (go_rel hf vs k hk)
      · cases h
    · cases h
theorem cvN_rel {φ : Phi} : ∀ (d : Nat) (v : Value) (x : AV), cvN d v = some x → VRel φ x v
  | 0, v, x, h => by simp [cvN] at h
  | d + 1, v, x, h => by
    simp only [cvN] at h
    split at h
    · cases h; exact .bool _
    · cases h; exact .int _ _
    · cases h; exact .str _ _ rfl
    · cases h; exact .ptr0
    · cases h; exact .slice0
    · cases h; exact .map0
    · cases h; exact .nilFunc
    · cases h; exact .nilIface
    · rename_i cs
      split at h
      · rename_i l hl
        cases h
        obtain ⟨h1, h2⟩ := goF_rel (cvN_rel d) _ _ hl
        have := VRel.agg (φ := φ) l cs.toList h1 h2
        simpa using this
      · cases h
    · rename_i cs
      split at h
      · rename_i l hl
        cases h
        have := VRel.tuple (φ := φ) l cs.toList (go_rel (cvN_rel d) _ _ hl)
        simpa using this
      · cases h
    · cases h
theorem cv_rel {φ : Phi} {v : Value} {x : AV} (h : cv v = some x) : VRel φ x v := cvN_rel 3 v x h
section
variable {P : Program} {φ : Phi} {lam : Nat → Nat} {T : List (Option FV)} {L : List (Option LC)} {h : H} {w : World} {a : Act}
theorem SRel.look (hs : SRel φ lam T L h a.tmps w) {s : Nat} {x : FV} (e : Ev.look T s = some x) : FRel φ lam h w x (a.eval (.tmp s)) := by
  obtain ⟨v, h1, h2⟩ := hs.val s x e
  simp only [Act.eval, Array.getD_eq_getD_getElem?, h1, Option.getD_some]
  exact h2
theorem opd_rel (hs : SRel φ lam T L h a.tmps w) {x : Operand} {v : AV} (e : opd T x = some v) : VRel φ v (a.eval x) := by
  cases x with
  | tmp s =>
    simp only [opd] at e
    split at e
    · rename_i y hy; cases e; exact hs.look hy
    · cases e
  | const c => exact cv_rel e
  | global g =>
    simp only [opd] at e
    split at e
    · rename_i hg
      cases e
      have := hs.ref.glob g (by simpa [Nat.blt_eq] using hg)
      exact .ptr g 0 g 0 this
    · cases e
  | func f => cases e; exact .func f [] [] [] [] .nil .nil
theorem opds_rel (hs : SRel φ lam T L h a.tmps w) : ∀ {l : List Operand} {vs : List AV}, opds T l = some vs → LRel φ vs (l.map a.eval)
  | [], vs, e => by simp only [opds, Option.some.injEq] at e; subst e; exact .nil
  | x :: l, vs, e => by
    simp only [opds] at e
    split at e
    · rename_i v hv
      split at e
      · rename_i k hk
        cases e
        exact .cons _ _ _ _ (opd_rel hs hv) (opds_rel hs hk)
      · cases e
    · cases e
/-- what comes of an operation that calls nothing -/
def Step (P : Program) (φ : Phi) (lam : Nat → Nat) (T : List (Option FV)) (L : List (Option LC)) (h : H) (a : Act) (w : World) (o : Oper) (K : FV → List (Option LC) → H → R) (res : AV × H) : Prop :=
  ∃ fv L' h' φ' v w' nx, (execOp a.eval o).run P w = .ok nx w' ∧ (nx = .value v ∨ (nx = .skip ∧ v = Go.undef)) ∧ K fv L' h' = some res ∧
    FRel φ' lam h' w' fv v ∧ SRel φ' lam T L' h' a.tmps w' ∧ FrX φ h lam L w w' ∧ Grow φ h φ' h' w ∧ (∀ d x, look L' d = some x → ∃ y, look L d = some y)
theorem Step.pure {o : Oper} {K : FV → List (Option LC) → H → R} {res : AV × H} {x : AV} {v : Value} (hs : SRel φ lam T L h a.tmps w)
    (hrun : (execOp a.eval o).run P w = .ok (.value v) w) (hv : VRel φ x v) (hk : K (.v x) L h = some res) : Step P φ lam T L h a w o K res :=
  ⟨.v x, L, h, φ, v, w, _, hrun, .inl rfl, hk, hv, hs, (Fr.refl _ _ _).toX _ _, Grow.refl _ _ _, fun _ x hx => ⟨x, hx⟩⟩
theorem Step.pureF {o : Oper} {K : FV → List (Option LC) → H → R} {res : AV × H} {x : FV} {v : Value} (hs : SRel φ lam T L h a.tmps w)
    (hrun : (execOp a.eval o).run P w = .ok (.value v) w) (hv : FRel φ lam h w x v) (hk : K x L h = some res) : Step P φ lam T L h a w o K res :=
  ⟨x, L, h, φ, v, w, _, hrun, .inl rfl, hk, hv, hs, (Fr.refl _ _ _).toX _ _, Grow.refl _ _ _, fun _ x hx => ⟨x, hx⟩⟩
/- combinators: what a success says -/
theorem onOpt_some {α : Type} {x : Option α} {f : α → R} {res} (e : onOpt x f = some res) : ∃ y, x = some y ∧ f y = some res := by
  cases x with
  | none => cases e
  | some y => exact ⟨y, rfl, e⟩
theorem onNat_some {x : Int} {f : Nat → R} {res} (e : onNat x f = some res) : ∃ n : Nat, x = (n : Int) ∧ f n = some res := by
  cases x with
  | ofNat n => exact ⟨n, rfl, e⟩
  | negSucc n => cases e
theorem onSome_some {x : Option (Nat × Nat)} {f : Nat → Nat → R} {res} (e : onSome x f = some res) : ∃ b o, x = some (b, o) ∧ f b o = some res := by
  cases x with
  | none => cases e
  | some y => exact ⟨y.1, y.2, rfl, e⟩
theorem guardB_some {b : Bool} {k : R} {res} (e : guardB b k = some res) : b = true ∧ k = some res := by
  cases b with
  | true => exact ⟨rfl, e⟩
  | false => cases e
theorem bindR_some {r : R} {f : AV → H → R} {res} (e : bindR r f = some res) : ∃ v h, r = some (v, h) ∧ f v h = some res := by
  cases r with
  | none => cases e
  | some y => exact ⟨y.1, y.2, rfl, e⟩
theorem step_move {o : Oper} {K : FV → List (Option LC) → H → R} {res : AV × H} {x : Operand} (hs : SRel φ lam T L h a.tmps w)
    (ho : o.op = .move x ∨ o.op = .assign x) (e : simple.mv T L h K x = some res) : Step P φ lam T L h a w o K res := by
  have hrun : (execOp a.eval o).run P w = .ok (.value (a.eval x)) w := by
    rcases ho with ho | ho <;> simp [execOp, ho]
  unfold simple.mv at e
  split at e
  · rename_i s
    split at e
    · rename_i y hy
      exact Step.pure hs hrun (hs.look hy) e
    · rename_i d off hy
      exact Step.pureF hs hrun (hs.look hy) e
    · cases e
  · split at e
    · rename_i v hv
      exact Step.pure hs hrun (opd_rel hs hv) e
    · cases e
theorem step_pick {o : Oper} {K : FV → List (Option LC) → H → R} {res : AV × H} {c x y : Operand} (hs : SRel φ lam T L h a.tmps w)
    (ho : o.op = .pick c x y) (e : simple P T L h K (.pick c x y) = some res) : Step P φ lam T L h a w o K res := by
  simp only [simple] at e
  split at e
  · rename_i b u v hc hx hy
    have h1 := opd_rel hs hc
    have h2 := opd_rel hs hx
    have h3 := opd_rel hs hy
    generalize hcv : a.eval c = cv at h1
    cases h1
    have hrun : (execOp a.eval o).run P w = .ok (.value (if b = true then a.eval x else a.eval y)) w := by
      simp [execOp, ho, hcv, asBool]
    refine Step.pure hs hrun ?_ e
    cases b with
    | true => simp only [if_true]; unfold pickV; split <;> assumption
    | false => simp only [Bool.false_eq_true, if_false]; unfold pickV; split <;> assumption
  · cases e
end
end Go.Ev
end
section
/- The evaluator's own arithmetic is the machine's. -/
namespace Go.Ev
theorem lim_lt (k : IntKind) : (lim k : Int) < 2 ^ (k.bits - 1) := by cases k <;> decide
theorem wrap_small (k : IntKind) (m : Nat) (h : m ≤ lim k) : k.wrap (m : Int) = (m : Int) := by
  cases k <;> simp only [lim] at h <;> simp only [IntKind.wrap, IntKind.bits, IntKind.signed] <;> simp <;> omega
theorem wrapF_eq (k : IntKind) (n : Int) : wrapF k n = k.wrap n := by
  unfold wrapF
  cases n with
  | negSucc n => rfl
  | ofNat m =>
    show (bif Nat.ble m (lim k) then Int.ofNat m else k.wrap (Int.ofNat m)) = _
    cases h : Nat.ble m (lim k) with
    | true => exact (wrap_small k m (Nat.le_of_ble_eq_true h)).symm
    | false => rfl
theorem eqI_eq (a b : Int) : eqI a b = (a == b) := by
  cases a <;> cases b <;> simp [eqI] <;> (rw [Bool.eq_iff_iff]; simp) <;> omega
theorem leI_eq (a b : Int) : leI a b = decide (a ≤ b) := by
  cases a <;> cases b <;> simp [leI] <;> (try rw [Bool.eq_iff_iff]) <;> (try simp) <;> omega
theorem ltI_eq (a b : Int) : ltI a b = decide (a < b) := by
  cases a <;> cases b <;> simp [ltI] <;> (try rw [Bool.eq_iff_iff]) <;> (try simp) <;> omega
theorem eqK_eq {k k' : IntKind} : eqK k k' = true ↔ k = k' := by cases k <;> cases k' <;> simp [eqK]
theorem ofInt_small (k : IntKind) (m : Nat) (h : m ≤ lim k) : (BitVec.ofInt k.bits (m : Int)).toNat = m := by
  have : m < 2 ^ k.bits := by cases k <;> simp only [lim] at h <;> simp only [IntKind.bits] <;> omega
  simp [BitVec.toNat_ofNat, Nat.mod_eq_of_lt this]
theorem and_le' (x y : Nat) : x &&& y ≤ x := Nat.and_le_left
theorem andI_eq (k : IntKind) (a b : Int) : andI k a b = bitsOp (fun _ p q => p &&& q) k a b := by
  unfold andI
  split
  · rename_i x y
    cases h : (Nat.ble x (lim k) && Nat.ble y (lim k)) with
    | false => rfl
    | true =>
      simp only [Bool.and_eq_true, Nat.ble_eq] at h
      simp only [cond_true, bitsOp]
      show ((x &&& y : Nat) : Int) = k.wrap ((BitVec.ofInt k.bits (x : Int) &&& BitVec.ofInt k.bits (y : Int)).toNat : Int)
      rw [BitVec.toNat_and, ofInt_small k x h.1, ofInt_small k y h.2, wrap_small k _ (Nat.le_trans Nat.and_le_left h.1)]
  · rfl
theorem or_lim (k : IntKind) (x y : Nat) (hx : x ≤ lim k) (hy : y ≤ lim k) : x ||| y ≤ lim k := by
  have key : ∀ n : Nat, x < 2 ^ n → y < 2 ^ n → x ||| y < 2 ^ n := fun n a b => Nat.or_lt_two_pow a b
  cases k <;> simp only [lim] at hx hy ⊢
  · have := key 7 (by omega) (by omega); omega
  · have := key 15 (by omega) (by omega); omega
  · have := key 31 (by omega) (by omega); omega
  · have := key 31 (by omega) (by omega); omega
  · have := key 7 (by omega) (by omega); omega
  · have := key 15 (by omega) (by omega); omega
  · have := key 31 (by omega) (by omega); omega
  · have := key 31 (by omega) (by omega); omega
theorem orI_eq (k : IntKind) (a b : Int) : orI k a b = bitsOp (fun _ p q => p ||| q) k a b := by
  unfold orI
  split
  · rename_i x y
    cases h : (Nat.ble x (lim k) && Nat.ble y (lim k)) with
    | false => rfl
    | true =>
      simp only [Bool.and_eq_true, Nat.ble_eq] at h
      simp only [cond_true, bitsOp]
      show ((x ||| y : Nat) : Int) = k.wrap ((BitVec.ofInt k.bits (x : Int) ||| BitVec.ofInt k.bits (y : Int)).toNat : Int)
      rw [BitVec.toNat_or, ofInt_small k x h.1, ofInt_small k y h.2, wrap_small k _ (or_lim k x y h.1 h.2)]
  · rfl
theorem shrI_eq (k : IntKind) (x y : Int) : shrI k x y = x.fdiv (2 ^ (min y.toNat k.bits)) := by
  unfold shrI
  split
  · rename_i a
    show ((a / 2 ^ (min y.toNat k.bits) : Nat) : Int) = _
    rw [Int.fdiv_eq_ediv_of_nonneg]
    · simp
    · exact Int.le_of_lt (Int.pow_pos (by decide))
  · rfl
theorem eqS_eq : ∀ s t : List Nat, eqS s t = (s == t)
  | [], [] => rfl
  | [], _ :: _ => rfl
  | _ :: _, [] => rfl
  | a :: s, b :: t => by
    simp only [eqS, List.cons_beq_cons, eqS_eq s t]
    cases h : Nat.beq a b with
    | true => have := Nat.eq_of_beq_eq_true h; subst this; simp
    | false =>
      have : a ≠ b := fun e => by subst e; simp at h
      simp [this]
def bytesN (b : ByteArray) : List Nat := b.data.toList.map UInt8.toNat
theorem toNat_inj {a b : List UInt8} (h : a.map UInt8.toNat = b.map UInt8.toNat) : a = b := by
  induction a generalizing b with
  | nil => cases b <;> simp_all
  | cons x a ih => cases b with
    | nil => simp at h
    | cons y b =>
      simp only [List.map_cons, List.cons.injEq] at h
      rw [UInt8.toNat_inj.1 h.1, ih h.2]
theorem eq_bytes (a b : ByteArray) : (a.toList == b.toList) = eqS (bytesN a) (bytesN b) := by
  rw [eqS_eq, Go.ByteArray.toList_eq, Go.ByteArray.toList_eq, Bool.eq_iff_iff]
  simp only [beq_iff_eq, bytesN]
  exact ⟨fun h => by rw [h], fun h => toNat_inj h⟩
theorem ltS_eq : ∀ s t : List UInt8, Op.bytesLess s t = ltS (s.map UInt8.toNat) (t.map UInt8.toNat)
  | s, [] => by cases s <;> rfl
  | [], _ :: _ => rfl
  | a :: s, b :: t => by
    simp only [Op.bytesLess, List.map_cons, ltS, ltS_eq s t]
    have h1 : (decide (a < b)) = Nat.blt a.toNat b.toNat := by
      rw [Bool.eq_iff_iff]; simp [UInt8.lt_iff_toNat_lt, Nat.blt_eq]
    have h2 : (a == b) = Nat.beq a.toNat b.toNat := by
      rw [Bool.eq_iff_iff]; simp [← UInt8.toNat_inj]
    rw [h1, h2]
    cases Nat.blt a.toNat b.toNat <;> cases Nat.beq a.toNat b.toNat <;> simp
theorem lt_bytes (a b : ByteArray) : Op.bytesLess a.toList b.toList = ltS (bytesN a) (bytesN b) := by
  rw [Go.ByteArray.toList_eq, Go.ByteArray.toList_eq, ltS_eq]; rfl
end Go.Ev
end
section
/- The operations that neither read nor write. -/
namespace Go.Ev
section
variable {P : Program} {φ : Phi} {lam : Nat → Nat} {T : List (Option FV)} {L : List (Option LC)} {h : H} {w : World} {a : Act}
theorem run_underlying' {t : TypeId} {d : TypeDesc} (h : P.underlying t = some d) (w : World) : (underlying t).run P w = .ok d w := by
  simp [underlying, h]
theorem eqI_false {x y : Int} (h : eqI x y = false) : x ≠ y := by rw [eqI_eq] at h; simpa using h
theorem intOp_rel {op : BinOp} {k : IntKind} {x y : Int} {v : AV} (t : TypeId) (e : intOp op k x y = some v) :
    ∃ u, (Go.binOp op t (.int k x) (.int k y)).run P w = .ok u w ∧ VRel φ v u := by
  cases op <;> simp only [intOp, Option.some.injEq, reduceCtorEq] at e <;> (try cases e)
  case add => exact ⟨_, by simp [Go.binOp, Op.intArith]; rfl, by rw [wrapF_eq]; exact .int _ _⟩
  case sub => exact ⟨_, by simp [Go.binOp, Op.intArith]; rfl, by rw [wrapF_eq]; exact .int _ _⟩
  case mul => exact ⟨_, by simp [Go.binOp, Op.intArith]; rfl, by rw [wrapF_eq]; exact .int _ _⟩
  case quo =>
    cases hz : eqI y 0 with
    | true => rw [hz] at e; cases e
    | false =>
      rw [hz] at e; cases e
      exact ⟨_, by simp [Go.binOp, Op.intDiv, eqI_false hz]; rfl, by rw [wrapF_eq]; exact .int _ _⟩
  case rem =>
    cases hz : eqI y 0 with
    | true => rw [hz] at e; cases e
    | false =>
      rw [hz] at e; cases e
      exact ⟨_, by simp [Go.binOp, Op.intDiv, eqI_false hz], .int _ _⟩
  case and => exact ⟨_, by simp [Go.binOp, Op.intBits]; rfl, by rw [andI_eq]; exact .int _ _⟩
  case or => exact ⟨_, by simp [Go.binOp, Op.intBits]; rfl, by rw [orI_eq]; exact .int _ _⟩
  case xor => exact ⟨_, by simp [Go.binOp, Op.intBits]; rfl, .int _ _⟩
  case andNot => exact ⟨_, by simp only [Go.binOp, Op.intBits, ne_eq, not_true, if_false]; rfl, .int _ _⟩
  case eql => exact ⟨_, by simp [Go.binOp, Op.intCmp]; rfl, by rw [eqI_eq]; exact .bool _⟩
  case neq => exact ⟨_, by simp [Go.binOp, Op.intCmp]; rfl, by rw [eqI_eq]; exact .bool _⟩
  case lss => exact ⟨_, by simp [Go.binOp, Op.intCmp]; rfl, by rw [ltI_eq]; exact .bool _⟩
  case leq => exact ⟨_, by simp [Go.binOp, Op.intCmp]; rfl, by rw [leI_eq]; exact .bool _⟩
  case gtr => exact ⟨_, by simp [Go.binOp, Op.intCmp]; rfl, by rw [ltI_eq]; exact .bool _⟩
  case geq => exact ⟨_, by simp [Go.binOp, Op.intCmp]; rfl, by rw [leI_eq]; exact .bool _⟩
theorem strOp_rel {op : BinOp} {x y : ByteArray} {v : AV} (t : TypeId) (e : strOp op (bytesN x) (bytesN y) = some v) :
    ∃ u, (Go.binOp op t (.string x) (.string y)).run P w = .ok u w ∧ VRel φ v u := by
  cases op <;> simp only [strOp, Option.some.injEq, reduceCtorEq] at e <;> (try cases e)
  case add =>
    cases hz : Nat.ble ((bytesN x).length + (bytesN y).length) strLim with
    | false => rw [hz] at e; cases e
    | true =>
      rw [hz] at e; cases e
      have hl : x.size + y.size ≤ 1099511627776 := by
        have := Nat.le_of_ble_eq_true hz
        simpa [bytesN, strLim] using this
      have hn : ¬ (9223372036854775807 < ((x.size : Int) + (y.size : Int))) := by omega
      refine ⟨.string (x ++ y), ?_, .str _ _ ?_⟩
      · simp [Go.binOp, Op.stringOp, IntKind.max, IntKind.signed, IntKind.bits]
        omega
      · simp [bytesN]
  case eql => exact ⟨_, by simp [Go.binOp, Op.stringOp]; rfl, by rw [← eq_bytes]; exact .bool _⟩
  case neq => exact ⟨_, by simp [Go.binOp, Op.stringOp]; rfl, by rw [← eq_bytes]; exact .bool _⟩
  case lss => exact ⟨_, by simp [Go.binOp, Op.stringOp]; rfl, by rw [← lt_bytes]; exact .bool _⟩
  case leq => exact ⟨_, by simp [Go.binOp, Op.stringOp]; rfl, by rw [← lt_bytes, ← eq_bytes]; exact .bool _⟩
  case gtr => exact ⟨_, by simp [Go.binOp, Op.stringOp]; rfl, by rw [← lt_bytes, ← eq_bytes, Bool.not_or]; exact .bool _⟩
  case geq => exact ⟨_, by simp [Go.binOp, Op.stringOp]; rfl, by rw [← lt_bytes]; exact .bool _⟩
/-- a part of a joined value -/
theorem partA_rel {t : TypeId} {l : List AV} {vs : List Value} {off : Nat} {x : AV} (hl : LRel φ l vs) (hf : ∀ v ∈ vs, flatV v = true) (e : partA P t l off = some x) :
    ∃ v, (part t vs.toArray off).run P w = .ok v w ∧ VRel φ x v := by
  unfold partA aggT at e
  split at e
  · rename_i hag
    have hu : ∃ d, P.underlying t = some d ∧ (match d with | .struct _ | .array _ _ => true | _ => false) = true := by
      split at hag
      · rename_i fs hd; exact ⟨_, hd, rfl⟩
      · rename_i n e hd; exact ⟨_, hd, rfl⟩
      · cases hag
      · cases hag
    split at e
    · rename_i s hs
      split at e
      · rename_i k hk
        cases e
        have hk' : (l.drop off).take s = k ∧ off + s ≤ l.length := by
          unfold getN at hk
          cases hb : Nat.ble (off + s) l.length with
          | false => rw [hb] at hk; cases hk
          | true => rw [hb] at hk; exact ⟨Option.some.inj hk, Nat.le_of_ble_eq_true hb⟩
        obtain ⟨hk1, hk2⟩ := hk'
        obtain ⟨d, hd, hd2⟩ := hu
        have hi : ∃ i, P.info? t = some i ∧ i.size = s := by
          unfold sizeT at hs; split at hs
          · rename_i i hi; exact ⟨i, hi, Option.some.inj hs⟩
          · cases hs
        obtain ⟨i, hi, his⟩ := hi
        refine ⟨.agg ((vs.drop off).take s).toArray, ?_, ?_⟩
        · have hrun : (part t vs.toArray off).run P w = .ok (.agg (vs.toArray.extract off (off + s))) w := by
            cases d <;> simp at hd2 <;> simp [part, isAgg, run_underlying' hd, sizeOf, typeInfo, hi, his]
          rw [hrun]
          congr 2
          simp [List.extract_eq_take_drop]
        · rw [← hk1]
          exact .agg _ _ (LRel.take s (LRel.drop off hl)) (fun v hv => hf v (List.mem_of_mem_drop (List.mem_of_mem_take hv)))
      · cases e
    · cases e
  · rename_i hag
    have hu : ∃ d, P.underlying t = some d ∧ (match d with | .struct _ | .array _ _ => true | _ => false) = false := by
      split at hag
      · cases hag
      · cases hag
      · rename_i d h1 h2 hd
        refine ⟨d, hd, ?_⟩
        cases d <;> first | rfl | (exact (h1 _ rfl).elim) | (exact (h2 _ _ rfl).elim)
      · cases hag
    obtain ⟨v, hv, hr⟩ := hl.get off x e
    obtain ⟨d, hd, hd2⟩ := hu
    refine ⟨v, ?_, hr⟩
    cases d <;> simp at hd2 <;> simp [part, isAgg, run_underlying' hd, hv]
  · cases e
theorem nilEq_some {α : Type} {a b : Option α} {r : Bool} (e : nilEq a b = some r) :
    (b = none ∧ r = a.isNone) ∨ (∃ y, b = some y ∧ a = none ∧ r = false) := by
  cases b with
  | none => simp only [nilEq, Option.some.injEq] at e; exact .inl ⟨rfl, e.symm⟩
  | some y => cases a with
    | none => simp only [nilEq, Option.some.injEq] at e; exact .inr ⟨y, rfl, rfl, e.symm⟩
    | some x => simp [nilEq] at e
theorem eqT_rel (hst : HST P) : ∀ (d D : Nat), d ≤ D → ∀ (t : TypeId) (x y : AV) (u v : Value) (r : Bool), VRel φ x u → VRel φ y v → eqT P d t x y = some r →
    (Op.equalIn D t u v).run P w = .ok r w := by
  intro d
  induction d with
  | zero => intro D _ t x y u v r _ _ e; simp [eqT] at e
  | succ d ih =>
    intro D hD t x y u v r hx hy e
    obtain ⟨D, rfl⟩ : ∃ k, D = k + 1 := ⟨D - 1, by omega⟩
    have hD' : d ≤ D := by omega
    unfold eqT at e
    cases ht : P.underlying t with
    | none => rw [ht] at e; simp at e
    | some td =>
      rw [ht] at e
      cases td <;> simp only [reduceCtorEq] at e
      case bool =>
        unfold Op.equalIn
        simp only [Sem.run_bind, run_underlying' ht, Result.andThen_ok]
        cases hx <;> cases hy <;> simp at e
        simp [e]
      case int k =>
        unfold Op.equalIn
        simp only [Sem.run_bind, run_underlying' ht, Result.andThen_ok]
        cases hx <;> cases hy <;> simp at e
        rename_i k1 n1 k2 n2
        cases hk : eqK k1 k2 with
        | false => rw [hk] at e; simp at e
        | true =>
          rw [hk] at e; simp at e
          have := eqK_eq.1 hk; subst this
          simp [← e, eqI_eq]
      case string =>
        unfold Op.equalIn
        simp only [Sem.run_bind, run_underlying' ht, Result.andThen_ok]
        cases hx <;> cases hy <;> simp at e
        rename_i s1 b1 h1 s2 b2 h2
        subst h1; subst h2
        have := eq_bytes b1 b2
        unfold bytesN at this
        rw [← this] at e
        subst e
        simp only [Sem.run_pure]
        rw [Go.beq_toListBytes]
      case pointer el =>
        unfold Op.equalIn
        simp only [Sem.run_bind, run_underlying' ht, Result.andThen_ok]
        cases hx <;> cases hy <;> simp at e
        all_goals (rcases nilEq_some e with ⟨h1, h2⟩ | ⟨y, h1, h2, h3⟩)
        all_goals (first | (cases h1; done) | skip)
        all_goals (first | (cases h2; done) | skip)
        all_goals simp_all
      case slice el =>
        unfold Op.equalIn
        simp only [Sem.run_bind, run_underlying' ht, Result.andThen_ok]
        cases hx <;> cases hy <;> simp at e
        all_goals (rcases nilEq_some e with ⟨h1, h2⟩ | ⟨y, h1, h2, h3⟩)
        all_goals (first | (cases h1; done) | skip)
        all_goals (first | (cases h2; done) | skip)
        all_goals simp_all
      case map k el =>
        unfold Op.equalIn
        simp only [Sem.run_bind, run_underlying' ht, Result.andThen_ok]
        cases hx <;> cases hy <;> simp at e
        all_goals (rcases nilEq_some e with ⟨h1, h2⟩ | ⟨y, h1, h2, h3⟩)
        all_goals (first | (cases h1; done) | skip)
        all_goals (first | (cases h2; done) | skip)
        all_goals simp_all
      case func =>
        unfold Op.equalIn
        simp only [Sem.run_bind, run_underlying' ht, Result.andThen_ok]
        cases hx <;> cases hy <;> simp at e
        all_goals simp_all
      case interface ms =>
        unfold Op.equalIn
        simp only [Sem.run_bind, run_underlying' ht, Result.andThen_ok]
        cases hx <;> cases hy <;> simp at e
        all_goals simp_all
      case struct fs =>
        cases hso : structOk P t fs.toList with
        | false => rw [hso] at e; cases e
        | true =>
        rw [hso] at e
        cases hx <;> cases hy <;> simp only [reduceCtorEq] at e
        rename_i xs us hxs hfx ys vs hys hfy
        have key := run_equalIn_struct (P := P) w D t us.toArray vs.toArray (by rw [ht]; simp [Program.fieldsOf, ht]) (hst t fs ht hso)
        rw [key]
        have hf : (P.fieldsOf t).toList = fs.toList := by simp [Program.fieldsOf, ht]
        rw [hf]
        clear key hf
        generalize fs.toList = l at e
        induction l with
        | nil => simp only [eqT.go, Option.some.injEq] at e; subst e; simp [Op.eqFields]
        | cons f l ihl =>
          simp only [eqT.go] at e
          split at e
          · cases e
          · rename_i hn
            have hn' : f.name ≠ "_" := of_decide_eq_false hn
            split at e
            · rename_i a b ha hb
              obtain ⟨ua, hua, hra⟩ := partA_rel (P := P) (w := w) hxs hfx ha
              obtain ⟨ub, hub, hrb⟩ := partA_rel (P := P) (w := w) hys hfy hb
              simp only [Op.eqFields, if_pos hn', Sem.run_bind, hua, hub, Result.andThen_ok]
              split at e
              · rename_i he
                rw [ih D hD' _ _ _ _ _ _ hra hrb he]
                simp only [Result.andThen_ok, Bool.not_true, Bool.false_eq_true, if_false]
                exact ihl e
              · rename_i he
                cases e
                rw [ih D hD' _ _ _ _ _ _ hra hrb he]
                simp
              · cases e
            · cases e
      case array n el =>
        unfold Op.equalIn
        simp only [Sem.run_bind, run_underlying' ht, Result.andThen_ok]
        cases hx <;> cases hy <;> (try simp only [reduceCtorEq] at e)
        rename_i xs us hxs hfx ys vs hys hfy
        split at e
        · rename_i xs' ys' sz e1 e2 hsz
          cases e1; cases e2
          have hso : (sizeOf el).run P w = .ok sz w := by
            unfold sizeT at hsz
            split at hsz
            · rename_i i hi; cases hsz; simp [sizeOf, typeInfo, hi]
            · cases hsz
          dsimp only
          simp only [Sem.run_bind, hso, Result.andThen_ok, Std.Legacy.Range.forIn_eq_forIn_range', Std.Legacy.Range.size, Nat.sub_zero, Nat.add_sub_cancel, Nat.div_one]
          generalize 0 = i at e ⊢
          clear hsz hso ht
          induction n generalizing i with
          | zero => simp only [eqT.goA, Option.some.injEq] at e; subst e; simp
          | succ n ihl =>
            simp only [eqT.goA] at e
            simp only [List.range'_succ, List.forIn_cons]
            split at e
            · rename_i a b ha hb
              obtain ⟨ua, hua, hra⟩ := partA_rel (P := P) (w := w) hxs hfx ha
              obtain ⟨ub, hub, hrb⟩ := partA_rel (P := P) (w := w) hys hfy hb
              simp only [Sem.run_bind, hua, hub, Result.andThen_ok]
              split at e
              · rename_i he
                rw [ih D hD' _ _ _ _ _ _ hra hrb he]
                simp only [Result.andThen_ok, Bool.not_true, Bool.false_eq_true, if_false, Sem.run_pure]
                exact ihl (i + 1) e
              · rename_i he
                cases e
                rw [ih D hD' _ _ _ _ _ _ hra hrb he]
                simp
              · cases e
            · cases e
        · cases e
end
end Go.Ev
end
section
/- The operations that neither read nor write: their steps. -/
namespace Go.Ev
section
variable {P : Program} {φ : Phi} {lam : Nat → Nat} {T : List (Option FV)} {L : List (Option LC)} {h : H} {w : World} {a : Act}
theorem abin_rel (hst : HST P) {op : BinOp} {t : TypeId} {x y : AV} {u v : Value} {r : AV} (ox oy : Operand) (hx : VRel φ x u) (hy : VRel φ y v) (e : abin P t op x y = some r) :
    ∃ z, (do eqGuard op t ox oy u v; Go.binOp op t u v : Sem Value).run P w = .ok z w ∧ VRel φ r z := by
  have key : ∀ b : Bool, (op = .eql ∨ op = .neq) → eqG P t x = true → eqT P 4 t x y = some b → (∀ k n k' n', ¬ (x = .int k n ∧ y = .int k' n')) → (∀ s s', ¬ (x = .str s ∧ y = .str s')) →
      (do eqGuard op t ox oy u v; Go.binOp op t u v : Sem Value).run P w = .ok (.bool (if op = .eql then b else !b)) w := by
    intro b hop hg hb hni hns
    have hq := eqT_rel (P := P) (φ := φ) (w := w) hst 4 10000 (by decide) t x y u v b hx hy hb
    have hgd : (eqGuard op t ox oy u v).run P w = .ok () w := by
      cases hx <;> cases hy <;> first
        | (rcases hop with rfl | rfl <;> simp [eqGuard]; done)
        | (simp [eqT] at hb; split at hb <;> (try split at hb) <;> simp at hb; done)
        | (simp [eqG] at hg; exact run_eqGuard_agg w op t ox oy _ _ hg)
    have hbin : (Go.binOp op t u v).run P w = .ok (.bool (if op = .eql then b else !b)) w := by
      have hE : (Op.equal t u v).run P w = .ok b w := hq
      rcases hop with rfl | rfl
      · cases hx <;> cases hy <;> first
          | (exact absurd ⟨rfl, rfl⟩ (hni _ _ _ _))
          | (exact absurd ⟨rfl, rfl⟩ (hns _ _))
          | (simp only [Go.binOp]; simp [hE])
      · cases hx <;> cases hy <;> first
          | (exact absurd ⟨rfl, rfl⟩ (hni _ _ _ _))
          | (exact absurd ⟨rfl, rfl⟩ (hns _ _))
          | (simp only [Go.binOp]; simp [hE])
    simp [hgd, hbin]
  unfold abin at e
  split at e
  · rename_i k p k' q
    cases hx; cases hy
    have hgd : (eqGuard op t ox oy (.int k p) (.int k' q)).run P w = .ok () w := by cases op <;> simp [eqGuard]
    split at e
    · cases hz : ltI q 0 with
      | true => rw [hz] at e; cases e
      | false =>
        rw [hz] at e; cases e
        have : ¬ q < 0 := by rw [ltI_eq] at hz; simpa using hz
        exact ⟨_, by simp [hgd, Go.binOp, Op.shift, this]; rfl, by rw [shlI, wrapF_eq]; exact .int _ _⟩
    · cases hz : ltI q 0 with
      | true => rw [hz] at e; cases e
      | false =>
        rw [hz] at e; cases e
        have : ¬ q < 0 := by rw [ltI_eq] at hz; simpa using hz
        exact ⟨_, by simp [hgd, Go.binOp, Op.shift, this]; rfl, by rw [shrI_eq]; exact .int _ _⟩
    · cases hk : eqK k k' with
      | false => rw [hk] at e; cases e
      | true =>
        rw [hk] at e
        have := eqK_eq.1 hk; subst this
        obtain ⟨z, h1, h2⟩ := intOp_rel (P := P) (φ := φ) (w := w) t e
        exact ⟨z, by simp [hgd, h1], h2⟩
  · rename_i p q
    cases hx with | str _ b1 h1 => cases hy with | str _ b2 h2 =>
      have hgd : (eqGuard op t ox oy (.string b1) (.string b2)).run P w = .ok () w := by cases op <;> simp [eqGuard]
      subst h1; subst h2
      obtain ⟨z, h1, h2⟩ := strOp_rel (P := P) (φ := φ) (w := w) t e
      exact ⟨z, by simp [hgd, h1], h2⟩
  · rename_i x' y' hni hns
    have hni' : ∀ k n k' n', ¬ (x = .int k n ∧ y = .int k' n') := fun k n k' n' ⟨e1, e2⟩ => hni k n k' n' e1 e2
    have hns' : ∀ s s', ¬ (x = .str s ∧ y = .str s') := fun s s' ⟨e1, e2⟩ => hns s s' e1 e2
    split at e
    · split at e
      · rename_i b hg hb
        cases e
        exact ⟨_, key b (.inl rfl) hg hb hni' hns', .bool _⟩
      · cases e
    · split at e
      · rename_i b hg hb
        cases e
        exact ⟨_, key b (.inr rfl) hg hb hni' hns', .bool _⟩
      · cases e
    · cases e
theorem step_binOp (hst : HST P) {o : Oper} {K : FV → List (Option LC) → H → R} {res : AV × H} {op : BinOp} {t t' : TypeId} {x y : Operand} (hs : SRel φ lam T L h a.tmps w)
    (ho : o.op = .binOp op t x y t') (e : simple P T L h K (.binOp op t x y t') = some res) : Step P φ lam T L h a w o K res := by
  simp only [simple] at e
  split at e
  · rename_i u v hx hy
    obtain ⟨r, hr, hk⟩ := onOpt_some e
    obtain ⟨z, h1, h2⟩ := abin_rel (P := P) (φ := φ) (w := w) hst x y (opd_rel hs hx) (opd_rel hs hy) hr
    refine Step.pure hs ?_ h2 hk
    simp only [execOp, ho]
    show (Sem.bind _ _).run P w = _
    rw [Sem.run_bind']
    exact (congrArg (fun r => Result.andThen r _) h1).trans rfl
  · cases e
theorem step_unOp {o : Oper} {K : FV → List (Option LC) → H → R} {res : AV × H} {op : UnOp} {t : TypeId} {x : Operand} (hs : SRel φ lam T L h a.tmps w)
    (ho : o.op = .unOp op t x) (e : simple P T L h K (.unOp op t x) = some res) : Step P φ lam T L h a w o K res := by
  simp only [simple] at e
  split at e
  · rename_i u hx
    obtain ⟨r, hr, hk⟩ := onOpt_some e
    have hv := opd_rel hs hx
    generalize hz : a.eval x = z at hv
    unfold aun at hr
    split at hr
    · cases hr; cases hv
      exact Step.pure hs (by simp [execOp, ho, hz, Op.unary]) (.bool _) hk
    · cases hr; cases hv
      exact Step.pure hs (by simp only [execOp, ho, hz, Op.unary, Op.intArith]; rfl) (by rw [wrapF_eq]; exact .int _ _) hk
    · cases hr; cases hv
      exact Step.pure hs (by simp [execOp, ho, hz, Op.unary, Op.intBits]; rfl) (.int _ _) hk
    · cases hr
  · cases e
theorem step_makeInterface {o : Oper} {K : FV → List (Option LC) → H → R} {res : AV × H} {t : TypeId} {x : Operand} (hs : SRel φ lam T L h a.tmps w)
    (ho : o.op = .makeInterface t x) (e : simple P T L h K (.makeInterface t x) = some res) : Step P φ lam T L h a w o K res := by
  simp only [simple] at e
  split at e
  · cases e
  · rename_i d x' hni hd hx
    refine Step.pure hs ?_ (.iface t _ _ (opd_rel hs hx)) e
    cases d <;> simp [execOp, ho, Instr.makeInterface, run_underlying' hd] <;> exact (hni _ rfl).elim
  · cases e
theorem step_makeFunc {o : Oper} {K : FV → List (Option LC) → H → R} {res : AV × H} {f : FuncId} {x y : Array Operand} (hs : SRel φ lam T L h a.tmps w)
    (ho : o.op = .makeFunc (.func f) x y) (e : simple P T L h K (.makeFunc (.func f) x y) = some res) : Step P φ lam T L h a w o K res := by
  simp only [simple] at e
  split at e
  · rename_i u v hx hy
    refine Step.pure hs ?_ (.func f _ _ _ _ (opds_rel hs hx) (opds_rel hs hy)) e
    simp [execOp, ho, Instr.makeFunc]
    constructor <;> (apply Array.ext'; simp)
  · cases e
theorem step_nilCheck {o : Oper} {K : FV → List (Option LC) → H → R} {res : AV × H} {x : Operand} (hs : SRel φ lam T L h a.tmps w)
    (ho : o.op = .nilCheck x) (e : simple P T L h K (.nilCheck x) = some res) : Step P φ lam T L h a w o K res := by
  simp only [simple] at e
  split at e
  · rename_i s
    split at e
    · rename_i d off hl
      have hv := hs.look hl
      refine Step.pureF hs ?_ hv e
      simp only [FRel] at hv
      simp [execOp, ho, hv]
    · rename_i y hl
      have hv := hs.look hl
      simp only [FRel] at hv
      generalize hz : a.eval (.tmp s) = z at hv
      unfold nilV at e
      split at e
      · obtain ⟨b, off, rfl, hk⟩ := onSome_some e
        refine Step.pure hs ?_ hv hk
        cases hv
        simp [execOp, ho, hz]
      · refine Step.pure hs ?_ hv e
        cases hv
        simp [execOp, ho, hz]
      · refine Step.pure hs ?_ hv e
        cases hv
        simp [execOp, ho, hz]
      · cases e
    · cases e
  · cases e
theorem step_extract {o : Oper} {K : FV → List (Option LC) → H → R} {res : AV × H} {x : Operand} {i : Nat} (hs : SRel φ lam T L h a.tmps w)
    (ho : o.op = .extract x i) (e : simple P T L h K (.extract x i) = some res) : Step P φ lam T L h a w o K res := by
  simp only [simple] at e
  split at e
  · rename_i y hy
    have hv := opd_rel hs hy
    generalize hz : a.eval x = z at hv
    unfold onTuple at e
    split at e
    · obtain ⟨v, h1, hk⟩ := onOpt_some e
      cases hv with | tuple _ vs hl =>
      obtain ⟨u, h2, h3⟩ := hl.get _ _ h1
      exact Step.pure hs (by simp [execOp, ho, hz, Instr.extract, h2]) h3 hk
    · cases e
  · cases e
end
end Go.Ev
end
section
/- Addresses, parts, slices of what there is. -/
namespace Go.Ev
section
variable {P : Program} {φ : Phi} {lam : Nat → Nat} {T : List (Option FV)} {L : List (Option LC)} {h : H} {w : World} {a : Act}
theorem sizeT_some {t : TypeId} {s : Nat} (e : sizeT P t = some s) : ∃ i, P.info? t = some i ∧ i.size = s := by
  unfold sizeT at e
  split at e
  · rename_i i hi; exact ⟨i, hi, Option.some.inj e⟩
  · cases e
theorem run_sizeT {t : TypeId} {s : Nat} (e : sizeT P t = some s) (w : World) : (sizeOf t).run P w = .ok s w := by
  obtain ⟨i, hi, rfl⟩ := sizeT_some e
  simp [sizeOf, typeInfo, hi]
theorem fieldOff_some {t : TypeId} {i : Nat} {f : Field} (e : fieldOff P t i = some f) :
    ∃ fs, P.underlying t = some (.struct fs) ∧ fs[i]? = some f ∧ ∃ s, sizeT P f.type = some (s + 1) := by
  unfold fieldOff at e
  split at e
  · rename_i fs hfs
    split at e
    · rename_i g hg
      split at e
      · rename_i s hs; cases e; exact ⟨fs, hfs, hg, s, hs⟩
      · cases e
    · cases e
  · cases e
theorem addr_add (r o n : Nat) : Addr.add ⟨r, o, none⟩ n = ⟨r, o + n, none⟩ := by
  unfold Addr.add
  split
  · subst_vars; rfl
  · rfl
theorem locOf_loc (hs : SRel φ lam T L h a.tmps w) {x : Operand} {d off : Nat} (e : locOf T x = some (.loc d off)) : a.eval x = .pointer (some ⟨lam d, off, none⟩) := by
  cases x with
  | tmp s =>
    simp only [locOf] at e
    split at e
    · cases e
    · rename_i hl; cases e; exact hs.look hl
    · cases e
  | global g => simp only [locOf] at e; split at e <;> cases e
  | const c => cases e
  | func f => cases e
theorem locOf_mem (hs : SRel φ lam T L h a.tmps w) {x : Operand} {b o : Nat} (e : locOf T x = some (.mem b o)) : VRel φ (.ptr (some (b, o))) (a.eval x) := by
  cases x with
  | tmp s =>
    simp only [locOf] at e
    split at e
    · rename_i hl; cases e; exact hs.look hl
    · cases e
    · cases e
  | global g =>
    simp only [locOf] at e
    split at e
    · rename_i hg
      cases e
      have := hs.ref.glob b (by simpa [Nat.blt_eq] using hg)
      exact .ptr b 0 b 0 this
    · cases e
  | const c => cases e
  | func f => cases e
theorem run_fieldAt {t : TypeId} {i : Nat} {f : Field} (e : fieldOff P t i = some f) (r o : Nat) :
    (Instr.fieldAt t (.pointer (some ⟨r, o, none⟩)) i).run P w = .ok (.pointer (some ⟨r, o + f.offset, none⟩)) w := by
  obtain ⟨fs, h1, h2, s, h3⟩ := fieldOff_some e
  simp [Instr.fieldAt, run_underlying' h1, h2, Instr.sureAddr, fieldPlace, run_sizeT h3, addr_add]
theorem step_fieldAddr {o : Oper} {K : FV → List (Option LC) → H → R} {res : AV × H} {t : TypeId} {x : Operand} {i : Nat} (hs : SRel φ lam T L h a.tmps w)
    (ho : o.op = .fieldAddr t x i) (e : simple P T L h K (.fieldAddr t x i) = some res) : Step P φ lam T L h a w o K res := by
  simp only [simple] at e
  split at e
  · rename_i d off f hl hf
    refine Step.pureF hs (x := .lptr d (off + f.offset)) ?_ (v := .pointer (some ⟨lam d, off + f.offset, none⟩)) rfl e
    simp [execOp, ho, locOf_loc hs hl, run_fieldAt hf]
  · rename_i b off f hl hf
    have hv := locOf_mem hs hl
    generalize hz : a.eval x = z at hv
    cases hv with | ptr _ _ r ro hφ =>
    refine Step.pure hs ?_ (.ptr b (off + f.offset) r ro hφ) e
    simp [execOp, ho, hz, run_fieldAt hf, Nat.add_assoc]
  · cases e
theorem step_field {o : Oper} {K : FV → List (Option LC) → H → R} {res : AV × H} {t : TypeId} {x : Operand} {i : Nat} (hs : SRel φ lam T L h a.tmps w)
    (ho : o.op = .field t x i) (e : simple P T L h K (.field t x i) = some res) : Step P φ lam T L h a w o K res := by
  simp only [simple] at e
  split at e
  · rename_i cs f hx hf
    obtain ⟨fs, h1, h2, _, _⟩ := fieldOff_some hf
    have hv := opd_rel hs hx
    generalize hz : a.eval x = z at hv
    cases hv with | agg _ vs hl hfl =>
    split at e
    · rename_i v hp
      obtain ⟨u, h3, h4⟩ := partA_rel (P := P) (w := w) hl hfl hp
      refine Step.pure hs ?_ h4 e
      simp [execOp, ho, hz, Instr.field, run_underlying' h1, h2, asAgg, h3]
    · cases e
  · cases e
theorem idxAddr_some {sz : Nat} {b : Option (Nat × Nat)} {n : Nat} {i : Int} {f : Nat → Nat → R} {res} (e : idxAddr sz b n i f = some res) :
    ∃ (j b' o : Nat), i = (j : Int) ∧ b = some (b', o) ∧ j < n ∧ f b' (o + j * sz) = some res := by
  unfold idxAddr at e
  obtain ⟨j, h1, e⟩ := onNat_some e
  obtain ⟨b', o, h2, e⟩ := onSome_some e
  obtain ⟨h3, e⟩ := guardB_some e
  exact ⟨j, b', o, h1, h2, by simpa [Nat.blt_eq] using h3, e⟩
theorem step_indexAddr {o : Oper} {K : FV → List (Option LC) → H → R} {res : AV × H} {t : TypeId} {x y : Operand} (hs : SRel φ lam T L h a.tmps w)
    (ho : o.op = .indexAddr t x y) (e : simple P T L h K (.indexAddr t x y) = some res) : Step P φ lam T L h a w o K res := by
  simp only [simple] at e
  split at e
  · rename_i el k i ht hy
    have hyv := opd_rel hs hy
    generalize hyz : a.eval y = zy at hyv
    cases hyv
    split at e
    · rename_i ad n c sz hx hsz
      obtain ⟨j, b, off, rfl, rfl, hj, hk⟩ := idxAddr_some e
      have hv := opd_rel hs hx
      generalize hz : a.eval x = z at hv
      cases hv with | slice _ _ _ _ r ro cc hφ hc =>
      refine Step.pure hs ?_ (.ptr b (off + j * sz) r ro hφ) hk
      simp [execOp, ho, hz, hyz, Instr.indexAt, asIntOf, run_underlying' ht, run_sizeT hsz, addr_add, Nat.add_assoc, hj]
    · cases e
  · rename_i n el k i ht hy
    have hyv := opd_rel hs hy
    generalize hyz : a.eval y = zy at hyv
    cases hyv
    split at e
    · rename_i b off sz hl hsz
      obtain ⟨j, rfl, e⟩ := onNat_some e
      obtain ⟨hj, e⟩ := guardB_some e
      have hj : j < n := by simpa [Nat.blt_eq] using hj
      have hv := locOf_mem hs hl
      generalize hz : a.eval x = z at hv
      cases hv with | ptr _ _ r ro hφ =>
      refine Step.pure hs ?_ (.ptr b (off + j * sz) r ro hφ) e
      simp [execOp, ho, hz, hyz, Instr.indexAt, asIntOf, run_underlying' ht, Instr.sureAddr, run_sizeT hsz, addr_add, Nat.add_assoc, hj]
    · rename_i d off sz hl hsz
      obtain ⟨j, rfl, e⟩ := onNat_some e
      obtain ⟨hj, e⟩ := guardB_some e
      have hj : j < n := by simpa [Nat.blt_eq] using hj
      refine Step.pureF hs (x := .lptr d (off + j * sz)) ?_ (v := .pointer (some ⟨lam d, off + j * sz, none⟩)) rfl e
      simp [execOp, ho, locOf_loc hs hl, hyz, Instr.indexAt, asIntOf, run_underlying' ht, Instr.sureAddr, run_sizeT hsz, addr_add, hj]
    · cases e
  · cases e
theorem step_index {o : Oper} {K : FV → List (Option LC) → H → R} {res : AV × H} {t : TypeId} {x y : Operand} (hs : SRel φ lam T L h a.tmps w)
    (ho : o.op = .index t x y) (e : simple P T L h K (.index t x y) = some res) : Step P φ lam T L h a w o K res := by
  simp only [simple] at e
  split at e
  · rename_i s k i ht hx hy
    have hyv := opd_rel hs hy
    generalize hyz : a.eval y = zy at hyv
    cases hyv
    have hv := opd_rel hs hx
    generalize hz : a.eval x = z at hv
    cases hv with | str _ b hb =>
    unfold idxS at e
    obtain ⟨j, rfl, e⟩ := onNat_some e
    obtain ⟨c, hc, e⟩ := onOpt_some e
    subst hb
    rw [List.getElem?_map] at hc
    cases hd : b.data.toList[j]? with
    | none => rw [hd] at hc; cases hc
    | some y' =>
      rw [hd] at hc; cases hc
      have hget : b[j]? = some y' := by
        have : b.data[j]? = some y' := by simpa using hd
        obtain ⟨hlt, hval⟩ := Array.getElem?_eq_some_iff.1 this
        rw [getElem?_pos b j hlt]
        exact congrArg some hval
      refine Step.pure hs ?_ (.int .u8 (y'.toNat : Int)) e
      simp [execOp, ho, hz, hyz, Instr.index, asIntOf, run_underlying' ht, hget]
  · rename_i n el cs k i ht hx hy
    have hyv := opd_rel hs hy
    generalize hyz : a.eval y = zy at hyv
    cases hyv
    have hv := opd_rel hs hx
    generalize hz : a.eval x = z at hv
    cases hv with | agg _ vs hl hfl =>
    split at e
    · rename_i sz hsz
      obtain ⟨j, rfl, e⟩ := onNat_some e
      obtain ⟨hj, e⟩ := guardB_some e
      have hj : j < n := by simpa [Nat.blt_eq] using hj
      obtain ⟨v, hp, e⟩ := onOpt_some e
      obtain ⟨u, h3, h4⟩ := partA_rel (P := P) (w := w) hl hfl hp
      refine Step.pure hs ?_ h4 e
      simp [execOp, ho, hz, hyz, Instr.index, asIntOf, run_underlying' ht, run_sizeT hsz, h3, hj]
    · cases e
  · cases e
end
end Go.Ev
end
section
/- Slices of slices and of strings; conversions; lengths; assertions. -/
namespace Go.Ev
section
variable {P : Program} {φ : Phi} {lam : Nat → Nat} {T : List (Option FV)} {L : List (Option LC)} {h : H} {w : World} {a : Act}
theorem intsOf_some (hs : SRel φ lam T L h a.tmps w) {x : Option Operand} {n : Option Int} (e : intsOf x T = some n) :
    (x = none ∧ n = none) ∨ (∃ y k m, x = some y ∧ n = some m ∧ a.eval y = .int k m) := by
  cases x with
  | none => simp only [intsOf, Option.some.injEq] at e; exact .inl ⟨rfl, e.symm⟩
  | some y =>
    simp only [intsOf] at e
    split at e
    · rename_i k m hy
      cases e
      have hv := opd_rel hs hy
      generalize hz : a.eval y = z at hv
      cases hv
      exact .inr ⟨y, k, m, rfl, rfl, hz⟩
    · cases e
theorem run_bound (k : IntKind) (j y : Nat) (code : BoundsCode) (hj : j ≤ y) : (Instr.sliceBound (.int k (j : Int)) y code).run P w = .ok j w := by
  have : (j : Int) ≤ (y : Int) := by omega
  simp [Instr.sliceBound, asIntOf, this]
/-- the bounds of a slice expression -/
theorem run_bounds {lo hi mx : Option Value} {n c l hh m : Nat} (isS : Bool)
    (h1 : (lo = none ∧ l = 0) ∨ ∃ k, lo = some (.int k (l : Int))) (h2 : (hi = none ∧ hh = n ∧ mx = none) ∨ ∃ k, hi = some (.int k (hh : Int)))
    (h3 : (mx = none ∧ m = c) ∨ ∃ k, mx = some (.int k (m : Int))) (h4 : l ≤ hh) (h5 : hh ≤ m) (h6 : m ≤ c) :
    (Instr.sliceBounds isS n c lo hi mx).run P w = .ok (l, hh, m) w := by
  unfold Instr.sliceBounds
  rcases h3 with ⟨rfl, rfl⟩ | ⟨k3, rfl⟩
  · rcases h2 with ⟨rfl, rfl, _⟩ | ⟨k2, rfl⟩
    · rcases h1 with ⟨rfl, rfl⟩ | ⟨k1, rfl⟩
      · simp
      · simp [run_bound k1 l hh _ h4]
    · rcases h1 with ⟨rfl, rfl⟩ | ⟨k1, rfl⟩
      · simp [run_bound k2 hh m _ h5]
      · simp [run_bound k2 hh m _ h5, run_bound k1 l hh _ h4]
  · rcases h2 with ⟨rfl, rfl, h⟩ | ⟨k2, rfl⟩
    · cases h
    · rcases h1 with ⟨rfl, rfl⟩ | ⟨k1, rfl⟩
      · simp [run_bound k3 m c _ h6, run_bound k2 hh m _ h5]
      · simp [run_bound k3 m c _ h6, run_bound k2 hh m _ h5, run_bound k1 l hh _ h4]
theorem low_of {x : Option Operand} {n : Option Int} {l : Nat} (hn : (x = none ∧ n = none) ∨ (∃ y k m, x = some y ∧ n = some m ∧ a.eval y = .int k m)) (hl : n.getD 0 = (l : Int)) :
    (x.map a.eval = none ∧ l = 0) ∨ ∃ k, x.map a.eval = some (.int k (l : Int)) := by
  rcases hn with ⟨rfl, rfl⟩ | ⟨y, k, m, rfl, rfl, hy⟩
  · exact .inl ⟨rfl, by simpa using hl.symm⟩
  · simp at hl; subst hl; exact .inr ⟨k, by simp [hy]⟩
theorem high_of {x : Option Operand} {n : Option Int} {l q : Nat} {mx : Option Value} (hn : (x = none ∧ n = none) ∨ (∃ y k m, x = some y ∧ n = some m ∧ a.eval y = .int k m)) (hl : n.getD (q : Int) = (l : Int)) (hm : mx = none) :
    (x.map a.eval = none ∧ l = q ∧ mx = none) ∨ ∃ k, x.map a.eval = some (.int k (l : Int)) := by
  rcases hn with ⟨rfl, rfl⟩ | ⟨y, k, m, rfl, rfl, hy⟩
  · exact .inl ⟨rfl, by simp at hl; omega, hm⟩
  · simp at hl; subst hl; exact .inr ⟨k, by simp [hy]⟩
theorem step_slice {o : Oper} {K : FV → List (Option LC) → H → R} {res : AV × H} {t : TypeId} {x : Operand} {lo hi mx : Option Operand} (hs : SRel φ lam T L h a.tmps w)
    (ho : o.op = .slice t x lo hi mx) (e : simple P T L h K (.slice t x lo hi mx) = some res) : Step P φ lam T L h a w o K res := by
  simp only [simple] at e
  split at e
  · rename_i s lo' hi' ht hx hlo hhi hmx
    have h1 := intsOf_some hs hlo
    have h2 := intsOf_some hs hhi
    have h3 := intsOf_some hs hmx
    have hmn : mx = none := by rcases h3 with ⟨h, _⟩ | ⟨_, _, _, _, h, _⟩ <;> first | exact h | cases h
    subst hmn
    have hv := opd_rel hs hx
    generalize hz : a.eval x = z at hv
    cases hv with | str _ b hb =>
    unfold slcS at e
    obtain ⟨l, hl, e⟩ := onNat_some e
    obtain ⟨hh, hhh, e⟩ := onNat_some e
    obtain ⟨hg, e⟩ := guardB_some e
    simp only [Bool.and_eq_true, Nat.ble_eq] at hg
    have hsz : s.length = b.size := by rw [← hb]; simp
    refine Step.pure hs (v := .string (b.extract l hh)) ?_ (.str _ _ ?_) e
    · have hb' := run_bounds (P := P) (w := w) (n := b.size) (c := b.size) (l := l) (hh := hh) (m := b.size) false (low_of h1 hl) (high_of (mx := none) h2 (by rw [← hsz]; exact hhh) rfl) (.inl ⟨rfl, rfl⟩) hg.1 (by omega) (Nat.le_refl _)
      simp [execOp, ho, hz, Instr.sliceAt, Instr.slice, run_underlying' ht, hb']
    · subst hb
      rw [← List.map_drop, ← List.map_take]
      congr 1
      simp [List.extract_eq_take_drop]
  · rename_i el ad n cp lo' hi' mx' ht hx hlo hhi hmx
    have h1 := intsOf_some hs hlo
    have h2 := intsOf_some hs hhi
    have h3 := intsOf_some hs hmx
    have hv := opd_rel hs hx
    generalize hz : a.eval x = z at hv
    split at e
    · rename_i sz hsz
      have hso := run_sizeT (P := P) hsz w
      unfold slcV at e
      obtain ⟨l, hl, e1⟩ := onNat_some e
      clear e
      obtain ⟨hh, hhh, e⟩ := onNat_some e1
      clear e1
      rcases h3 with ⟨rfl, rfl⟩ | ⟨y3, k3, m3, rfl, rfl, hy3⟩
      · simp only at e
        cases hv with
        | slice0 =>
          obtain ⟨hg, e⟩ := guardB_some e
          simp only [Bool.and_eq_true, Nat.ble_eq] at hg
          obtain ⟨hg1, hg2⟩ := hg
          have : hh = 0 := by omega
          subst this
          have : l = 0 := by omega
          subst this
          refine Step.pure hs (v := .slice none 0 0) ?_ .slice0 e
          have hb' := run_bounds (P := P) (w := w) (n := 0) (c := 0) (l := 0) (hh := 0) (m := 0) true (low_of h1 hl) (high_of (mx := none) h2 hhh rfl) (.inl ⟨rfl, rfl⟩) (Nat.le_refl _) (Nat.le_refl _) (Nat.le_refl _)
          simp [execOp, ho, hz, Instr.sliceAt, Instr.slice, run_underlying' ht, hb', hso]
        | slice b off _ _ r ro cc hφ hc =>
          cases cp with
          | some c =>
            obtain ⟨rfl, hnc⟩ := hc
            obtain ⟨hg, e⟩ := guardB_some e
            simp only [Bool.and_eq_true, Nat.ble_eq] at hg
            have hb' := run_bounds (P := P) (w := w) (n := n) (c := cc) (l := l) (hh := hh) (m := cc) true (low_of h1 hl) (high_of (mx := none) h2 hhh rfl) (.inl ⟨rfl, rfl⟩) hg.1 hg.2 (Nat.le_refl _)
            by_cases hcl : cc = l
            · subst hcl
              have : Nat.beq cc cc = true := Nat.beq_refl cc
              rw [this] at e
              refine Step.pure hs (x := .slice (some (b, off)) (hh - cc) (some (cc - cc))) (v := .slice (some ⟨r, ro + off, none⟩) (hh - cc) (cc - cc)) ?_ (.slice b off _ _ r ro _ hφ ⟨rfl, by omega⟩) e
              simp [execOp, ho, hz, Instr.sliceAt, Instr.slice, run_underlying' ht, hb', hso]
            · have : Nat.beq cc l = false := by rw [← Bool.not_eq_true]; exact fun h => hcl (Nat.eq_of_beq_eq_true h)
              rw [this] at e
              refine Step.pure hs (x := .slice (some (b, off + l * sz)) (hh - l) (some (cc - l))) (v := .slice (some ⟨r, ro + (off + l * sz), none⟩) (hh - l) (cc - l)) ?_ (.slice b (off + l * sz) _ _ r ro _ hφ ⟨rfl, by omega⟩) e
              simp [execOp, ho, hz, Instr.sliceAt, Instr.slice, run_underlying' ht, hb', hso, hcl, addr_add, Nat.add_assoc]
          | none =>
            obtain ⟨hnc, C, hC, hCle⟩ := hc
            obtain ⟨hg, e⟩ := guardB_some e
            simp only [Bool.and_eq_true, Bool.or_eq_true, Nat.ble_eq] at hg
            obtain ⟨⟨hg1, hg2⟩, hg3⟩ := hg
            have hb' := run_bounds (P := P) (w := w) (n := n) (c := cc) (l := l) (hh := hh) (m := cc) true (low_of h1 hl) (high_of (mx := none) h2 hhh rfl) (.inl ⟨rfl, rfl⟩) hg1 (by omega) (Nat.le_refl _)
            refine Step.pure hs (x := .slice (some (b, off + l * sz)) (hh - l) none) (v := .slice (some ⟨r, ro + (off + l * sz), none⟩) (hh - l) (cc - l)) ?_ (.slice b (off + l * sz) _ _ r ro _ hφ ⟨by omega, C, hC, by omega⟩) e
            by_cases hcl : cc = l
            · have h0 : l = 0 := by
                rcases hg3 with h | h
                · omega
                · exact Nat.eq_of_beq_eq_true h
              subst h0
              subst hcl
              simp [execOp, ho, hz, Instr.sliceAt, Instr.slice, run_underlying' ht, hb', hso]
            · simp [execOp, ho, hz, Instr.sliceAt, Instr.slice, run_underlying' ht, hb', hso, hcl, addr_add, Nat.add_assoc]
      · simp only at e
        obtain ⟨m, hm, e4⟩ := onNat_some e
        clear e
        subst hm
        obtain ⟨hg, e⟩ := guardB_some e4
        clear e4
        simp only [Bool.and_eq_true, Nat.ble_eq] at hg
        obtain ⟨⟨hg1, hg2⟩, hg3, hg4⟩ := hg
        rcases h2 with ⟨rfl, rfl⟩ | ⟨y2, k2, m2, rfl, rfl, hy2⟩
        · cases hg4
        · simp at hhh
          subst hhh
          have hhi' : ((some y2).map a.eval = none ∧ hh = n ∧ ((some y3).map a.eval) = none) ∨ ∃ k, (some y2).map a.eval = some (.int k (hh : Int)) := .inr ⟨k2, by simp [hy2]⟩
          have hmx' : ((some y3).map a.eval = none ∧ m = m) ∨ ∃ k, (some y3).map a.eval = some (.int k (m : Int)) := .inr ⟨k3, by simp [hy3]⟩
          cases hv with
          | slice0 =>
            have hm0 : m = 0 := by simpa using hg3
            have hh0 : hh = 0 := by omega
            have hl0 : l = 0 := by omega
            subst hm0; subst hh0; subst hl0
            have hb' := run_bounds (P := P) (w := w) (n := 0) (c := 0) (l := 0) (hh := 0) (m := 0) true (low_of h1 hl) hhi' (.inr ⟨k3, by simp [hy3]⟩) (Nat.le_refl _) (Nat.le_refl _) (Nat.le_refl _)
            refine Step.pure hs (v := .slice none 0 0) ?_ .slice0 e
            simp at hb'
            simp [execOp, ho, hz, Instr.sliceAt, Instr.slice, run_underlying' ht, hb', hso]
          | slice b off _ _ r ro cc hφ hc =>
            have hmc : m ≤ cc := by
              cases cp with
              | some c => obtain ⟨rfl, _⟩ := hc; exact hg3
              | none => have hnc : n ≤ cc := hc.1; exact Nat.le_trans hg3 hnc
            have hb' := run_bounds (P := P) (w := w) (n := n) (c := cc) (l := l) (hh := hh) (m := m) true (low_of h1 hl) hhi' (.inr ⟨k3, by simp [hy3]⟩) hg1 hg2 hmc
            simp at hb'
            by_cases hcl : m = l
            · subst hcl
              have : Nat.beq m m = true := Nat.beq_refl m
              rw [this] at e
              refine Step.pure hs (x := .slice (some (b, off)) (hh - m) (some (m - m))) (v := .slice (some ⟨r, ro + off, none⟩) (hh - m) (m - m)) ?_ (.slice b off _ _ r ro _ hφ ⟨rfl, by omega⟩) e
              simp [execOp, ho, hz, Instr.sliceAt, Instr.slice, run_underlying' ht, hb', hso]
            · have : Nat.beq m l = false := by rw [← Bool.not_eq_true]; exact fun h => hcl (Nat.eq_of_beq_eq_true h)
              rw [this] at e
              refine Step.pure hs (x := .slice (some (b, off + l * sz)) (hh - l) (some (m - l))) (v := .slice (some ⟨r, ro + (off + l * sz), none⟩) (hh - l) (m - l)) ?_ (.slice b (off + l * sz) _ _ r ro _ hφ ⟨rfl, by omega⟩) e
              simp [execOp, ho, hz, Instr.sliceAt, Instr.slice, run_underlying' ht, hb', hso, hcl, addr_add, Nat.add_assoc]
    · cases e
  · cases e
end
end Go.Ev
end
section
/- Memory: what is kept as the heap grows and is written. -/
namespace Go.Ev
theorem H.get_add_new (h : H) (o : Blk) : (h.add o).get h.next = some o := T5.get_set_same _ _ _
theorem H.get_add_ne (h : H) (o : Blk) {b : Nat} (hb : b ≠ h.next) : (h.add o).get b = h.get b := T5.get_set_ne _ _ hb
theorem H.get_upd_same (h : H) (b : Nat) (o : Blk) : (h.upd b o).get b = some o := T5.get_set_same _ _ _
theorem H.get_upd_ne (h : H) (o : Blk) {b c : Nat} (hb : c ≠ b) : (h.upd b o).get c = h.get c := T5.get_set_ne _ _ hb
theorem H.next_add (h : H) (o : Blk) : (h.add o).next = h.next + 1 := rfl
theorem H.next_upd (h : H) (b : Nat) (o : Blk) : (h.upd b o).next = h.next := rfl
theorem MRel.mono {φ φ' : Phi} (hle : φ.le φ') {es : List (AV × AV)} {ents : List MapEntry} (h : MRel φ es ents) : MRel φ' es ents := by
  obtain ⟨ks, h1, h2⟩ := h
  exact ⟨ks, h1.mono hle, h2⟩
theorem BRel.keep {φ φ' : Phi} {w w' : World} {b : Nat} {k : Blk} (hle : φ.le φ') (hk : ∀ r o, φ b = some (r, o) → r < w.heap.size → w'.heap[r]? = w.heap[r]?) (hb : BRel φ w b k) : BRel φ' w' b k := by
  cases k with
  | cells n c own =>
    obtain ⟨r, ro, ws, e, fz, h1, h2, h3, h4, h5⟩ := hb
    refine ⟨r, ro, ws, e, fz, hle.1 _ _ h1, ?_, h3, fun i x hi hx => ?_, h5⟩
    · rw [hk r ro h1 (Array.getElem?_eq_some_iff.1 h2).1]; exact h2
    · obtain ⟨v, hv1, hv2, hv3⟩ := h4 i x hi hx
      exact ⟨v, hv1, hv2.mono hle, hv3⟩
  | map es =>
    obtain ⟨r, ents, clock, h1, h2, h3⟩ := hb
    refine ⟨r, ents, clock, hle.1 _ _ h1, ?_, h3.mono hle⟩
    rw [hk r 0 h1 (Array.getElem?_eq_some_iff.1 h2).1]; exact h2
  | dead => trivial
theorem Ro.mapped {φ : Phi} {h : H} {w : World} (hr : Ref φ h w) {b : Nat} (hb : Ro h b) : ∃ r o, φ b = some (r, o) ∧ r < w.heap.size := by
  obtain ⟨n, c, e⟩ := hb
  obtain ⟨r, ro, ws, _, _, h1, h2, _⟩ := hr.blk b _ e
  exact ⟨r, ro, h1, (Array.getElem?_eq_some_iff.1 h2).1⟩
theorem Off.carry {φ φ' : Phi} {h h' : H} {w : World} (g : Grow φ h φ' h' w) {r : Nat} (ho : Off φ h r) (hlt : r < w.heap.size) : Off φ' h' r := by
  intro b o hb e
  rcases g.own b r o hb e with h1 | h1
  · omega
  · exact h1 ho
theorem FRel.carry {φ φ' : Phi} {lam : Nat → Nat} {h h' : H} {w w' : World} (f : Fr φ h w w') (g : Grow φ h φ' h' w) {x : FV} {v : Value} (hv : FRel φ lam h w x v) : FRel φ' lam h' w' x v := by
  cases x with
  | v x => exact VRel.mono g.le hv
  | lptr d off => exact hv
  | lrow cs n =>
    obtain ⟨r, ws, e, h1, h2, h3, h4, h5⟩ := hv
    have hlt := (Array.getElem?_eq_some_iff.1 h2).1
    exact ⟨r, ws, e, h1, by rw [f.keep r hlt h5]; exact h2, h3.mono g.le, h4, h5.carry g hlt⟩
theorem CRel.carry {φ φ' : Phi} {h h' : H} {w w' : World} (f : Fr φ h w w') (g : Grow φ h φ' h' w) {r : Nat} {x : LC} (ho : Off φ h r) (hv : CRel φ w r x) : CRel φ' w' r x := by
  cases x with
  | cells cs =>
    obtain ⟨ws, e, h1, h2, h3⟩ := hv
    exact ⟨ws, e, by rw [f.keep r (Array.getElem?_eq_some_iff.1 h1).1 ho]; exact h1, h2.mono g.le, h3⟩
  | iter s p =>
    obtain ⟨b, h1, h2, h3⟩ := hv
    exact ⟨b, by rw [f.keep r (Array.getElem?_eq_some_iff.1 h1).1 ho]; exact h1, h2, h3⟩
theorem SRel.carry {φ φ' : Phi} {lam : Nat → Nat} {T : List (Option FV)} {L : List (Option LC)} {h h' : H} {tmps : Array Value} {w w' : World}
    (hs : SRel φ lam T L h tmps w) (hr : Ref φ' h' w') (f : Fr φ h w w') (g : Grow φ h φ' h' w) : SRel φ' lam T L h' tmps w' where
  ref := hr
  size := hs.size
  val s x e := by
    obtain ⟨v, h1, h2⟩ := hs.val s x e
    exact ⟨v, h1, h2.carry f g⟩
  loc d x e := by
    obtain ⟨h1, h2, h3⟩ := hs.loc d x e
    exact ⟨h1.carry f g h2, h2.carry g h3, Nat.lt_of_lt_of_le h3 f.size⟩
  inj := hs.inj
  ro d x b o hd hb e := by
    have hb' := g.ro b hb
    obtain ⟨n, c, hg⟩ := hb'
    have hlt : b < h.next := by
      rcases Nat.lt_or_ge b h.next with hl | hl
      · exact hl
      · rw [hs.ref.new b hl] at hg; cases hg
    exact hs.ro d x b o hd ⟨n, c, hg⟩ (g.old b _ e hlt)
  row := hs.row
/-- a new block -/
def Phi.ext (φ : Phi) (b r : Nat) (C : Option Nat := none) : Phi := ⟨fun x => if x = b then some (r, 0) else φ x, fun x => if x = b then C else φ.g x⟩
theorem Phi.ext_same (φ : Phi) (b r : Nat) (C : Option Nat) : φ.ext b r C b = some (r, 0) := if_pos rfl
theorem Phi.ext_ne (φ : Phi) {b x : Nat} (r : Nat) (C : Option Nat) (h : x ≠ b) : φ.ext b r C x = φ x := if_neg h
theorem Phi.extg_same (φ : Phi) (b r : Nat) (C : Option Nat) : (φ.ext b r C).g b = C := if_pos rfl
theorem Phi.extg_ne (φ : Phi) {b x : Nat} (r : Nat) (C : Option Nat) (h : x ≠ b) : (φ.ext b r C).g x = φ.g x := if_neg h
theorem Ref.le_ext {φ : Phi} {h : H} {w : World} (hr : Ref φ h w) (r : Nat) (C : Option Nat := none) : φ.le (φ.ext h.next r C) := by
  refine ⟨fun b p e => ?_, fun b x e => ?_⟩
  · rw [Phi.ext_ne _ _ _ (Nat.ne_of_lt (hr.dom b p e))]; exact e
  · rw [Phi.extg_ne _ _ _ (Nat.ne_of_lt (hr.room b x e).1)]; exact e
theorem Own.of_add {h : H} {k : Blk} {b : Nat} (hb : Own (h.add k) b) (hne : b ≠ h.next) : Own h b := by
  rcases hb with ⟨n, c, e⟩ | ⟨es, e⟩
  · exact .inl ⟨n, c, by rwa [H.get_add_ne _ _ hne] at e⟩
  · exact .inr ⟨es, by rwa [H.get_add_ne _ _ hne] at e⟩
theorem heap_alloc_lt (w : World) (o : Obj) {r : Nat} (h : r < w.heap.size) : (w.alloc o).heap[r]? = w.heap[r]? := by
  show (w.heap.push o)[r]? = _
  rw [Array.getElem?_push, if_neg (Nat.ne_of_lt h)]
theorem heap_alloc_new (w : World) (o : Obj) : (w.alloc o).heap[w.heap.size]? = some o := by
  show (w.heap.push o)[w.heap.size]? = _
  rw [Array.getElem?_push, if_pos rfl]
theorem Ref.alloc {φ : Phi} {h : H} {w : World} {k : Blk} {ob : Obj} {C : Option Nat} (hr : Ref φ h w) (hk : ∀ n c, k ≠ .cells n c false)
    (hB : BRel (φ.ext h.next w.heap.size C) (w.alloc ob) h.next k)
    (hC : ∀ x, C = some x → ∀ n c own, k = .cells n c own → ∃ k z ws e fz, c.get n = some (.int k (.ofNat z)) ∧ ob = .cells ws e fz ∧ x * z ≤ ws.size) :
    Ref (φ.ext h.next w.heap.size C) (h.add k) (w.alloc ob) ∧ Fr φ h w (w.alloc ob) ∧ Grow φ h (φ.ext h.next w.heap.size C) (h.add k) w := by
  have hle := hr.le_ext w.heap.size C
  have hro : ∀ {b}, Ro (h.add k) b → b ≠ h.next ∧ Ro h b := by
    intro b ⟨n, c, e⟩
    by_cases hb : b = h.next
    · subst hb
      rw [H.get_add_new] at e
      cases e
      exact absurd rfl (hk n c)
    · exact ⟨hb, n, c, by rwa [H.get_add_ne _ _ hb] at e⟩
  have hlt : ∀ {b r o}, Own h b → φ b = some (r, o) → r < w.heap.size := by
    intro b r o hb e
    obtain ⟨r', o', e', hl⟩ := hb.mapped hr
    rw [e] at e'; cases e'; exact hl
  have hltr : ∀ {b r o}, Ro h b → φ b = some (r, o) → r < w.heap.size := by
    intro b r o hb e
    obtain ⟨r', o', e', hl⟩ := hb.mapped hr
    rw [e] at e'; cases e'; exact hl
  refine ⟨⟨?_, ?_, ?_, ?_, ?_, ?_, ?_⟩, ⟨by simp, fun r hl _ => heap_alloc_lt w ob hl, rfl, rfl, rfl⟩, ⟨hle, ?_, by rw [H.next_add]; omega, ?_, fun b hb => (hro hb).2⟩⟩
  · intro b k' e
    by_cases hb : b = h.next
    · subst hb
      rw [H.get_add_new] at e
      cases e
      exact hB
    · rw [H.get_add_ne _ _ hb] at e
      exact (hr.blk b k' e).keep hle (fun r o _ hl => heap_alloc_lt w ob hl)
  · intro b b' r o o' hb hb' e e'
    by_cases h1 : b = h.next
    · by_cases h2 : b' = h.next
      · rw [h1, h2]
      · subst h1
        rw [Phi.ext_same] at e
        cases e
        rw [Phi.ext_ne _ _ _ h2] at e'
        exact absurd (hlt (hb'.of_add h2) e') (Nat.lt_irrefl _)
    · rw [Phi.ext_ne _ _ _ h1] at e
      by_cases h2 : b' = h.next
      · subst h2
        rw [Phi.ext_same] at e'
        cases e'
        exact absurd (hlt (hb.of_add h1) e) (Nat.lt_irrefl _)
      · rw [Phi.ext_ne _ _ _ h2] at e'
        exact hr.inj b b' r o o' (hb.of_add h1) (hb'.of_add h2) e e'
  · intro b b' r o o' hb hb' e e'
    obtain ⟨h2, hb2⟩ := hro hb'
    rw [Phi.ext_ne _ _ _ h2] at e'
    by_cases h1 : b = h.next
    · subst h1
      rw [Phi.ext_same] at e
      cases e
      exact absurd (hltr hb2 e') (Nat.lt_irrefl _)
    · rw [Phi.ext_ne _ _ _ h1] at e
      exact hr.sep b b' r o o' (hb.of_add h1) hb2 e e'
  · intro b p e
    rw [H.next_add]
    by_cases hb : b = h.next
    · omega
    · rw [Phi.ext_ne _ _ _ hb] at e
      have := hr.dom b p e
      omega
  · intro b hb
    rw [H.next_add] at hb
    rw [H.get_add_ne _ _ (by omega)]
    exact hr.new b (by omega)
  · intro g hg
    exact hle.1 _ _ (hr.glob g hg)
  · intro b x hx
    rw [H.next_add]
    by_cases hb : b = h.next
    · subst hb
      rw [Phi.extg_same] at hx
      refine ⟨by omega, fun n c own r o e1 e2 => ?_⟩
      rw [H.get_add_new] at e1
      rw [Phi.ext_same] at e2
      cases e1
      cases e2
      obtain ⟨k', z, ws, e, fz, g1, g2, g3⟩ := hC x hx n c own rfl
      exact ⟨k', z, ws, e, fz, g1, by rw [heap_alloc_new, g2], g3⟩
    · rw [Phi.extg_ne _ _ _ hb] at hx
      obtain ⟨g1, g2⟩ := hr.room b x hx
      refine ⟨by omega, fun n c own r o e1 e2 => ?_⟩
      rw [H.get_add_ne _ _ hb] at e1
      rw [Phi.ext_ne _ _ _ hb] at e2
      obtain ⟨k', z, ws, e, fz, k1, k2, k3⟩ := g2 n c own r o e1 e2
      exact ⟨k', z, ws, e, fz, k1, by rw [heap_alloc_lt w ob (Array.getElem?_eq_some_iff.1 k2).1]; exact k2, k3⟩
  · intro b r o hb e
    by_cases h1 : b = h.next
    · subst h1
      rw [Phi.ext_same] at e
      cases e
      exact .inl (Nat.le_refl _)
    · rw [Phi.ext_ne _ _ _ h1] at e
      exact .inr (fun hoff => hoff b o (hb.of_add h1) e)
  · intro b p e hl
    rwa [Phi.ext_ne _ _ _ (Nat.ne_of_lt hl)] at e
theorem Ref.allocCells {φ : Phi} {h : H} {w : World} {cs : List AV} {vs : List Value} {e : TypeId} (hr : Ref φ h w) (hl : LRel φ cs vs) (hf : ∀ v ∈ vs, flatV v = true) :
    Ref (φ.ext h.next w.heap.size) (h.add (.cells cs.length (rowFrom .nil 0 cs) true)) (w.alloc (.cells vs.toArray e)) ∧ Fr φ h w (w.alloc (.cells vs.toArray e)) ∧
      Grow φ h (φ.ext h.next w.heap.size) (h.add (.cells cs.length (rowFrom .nil 0 cs) true)) w := by
  refine hr.alloc (fun n c e => by cases e) ⟨w.heap.size, 0, vs.toArray, e, (0, 0), Phi.ext_same _ _ _ _, heap_alloc_new _ _, ?_, ?_, fun _ => ⟨rfl, rfl⟩⟩ (fun x e => by cases e)
  · simp [hl.length]
  · intro i x hi hx
    rw [rowFrom_get, if_pos ⟨Nat.zero_le _, by omega⟩] at hx
    obtain ⟨v, h1, h2⟩ := hl.get i x (by simpa using hx)
    exact ⟨v, by simpa using h1, h2.mono (hr.le_ext _), hf v (List.mem_of_getElem? h1)⟩
/-- a block written -/
theorem Own.of_upd {h : H} {b n : Nat} {c c' : T5 AV} {b' : Nat} (hg : h.get b = some (.cells n c true)) {n' : Nat} (hb : Own (h.upd b (.cells n' c' true)) b') : Own h b' := by
  by_cases hbb : b' = b
  · subst hbb; exact .inl ⟨n, c, hg⟩
  · rcases hb with ⟨m, d, e⟩ | ⟨es, e⟩
    · exact .inl ⟨m, d, by rwa [H.get_upd_ne _ _ hbb] at e⟩
    · exact .inr ⟨es, by rwa [H.get_upd_ne _ _ hbb] at e⟩
theorem splice_get (l vs : List Value) (o i : Nat) (h : o + vs.length ≤ l.length) :
    (l.take o ++ vs ++ l.drop (o + vs.length))[i]? = if o ≤ i ∧ i < o + vs.length then vs[i - o]? else l[i]? := by
  have hto : (l.take o).length = o := by simp; omega
  by_cases h1 : i < o
  · rw [if_neg (by omega), List.append_assoc, List.getElem?_append_left (by omega), List.getElem?_take, if_pos h1]
  · by_cases h2 : i < o + vs.length
    · rw [if_pos ⟨by omega, h2⟩, List.getElem?_append_left (by simp; omega), List.getElem?_append_right (by omega), hto]
    · rw [if_neg (by omega), List.getElem?_append_right (by simp; omega), List.getElem?_drop]
      congr 1
      simp
      omega
theorem Ref.write {φ : Phi} {h : H} {w : World} {P : Program} {b n o : Nat} {c : T5 AV} {cs : List AV} {vs : List Value} (hr : Ref φ h w) (hg : h.get b = some (.cells n c true))
    (hl : LRel φ cs vs) (hf : ∀ v ∈ vs, flatV v = true) (hle : o + cs.length ≤ n) :
    ∃ r w', φ b = some (r, 0) ∧ (storeCells ⟨r, o, none⟩ vs 0).run P w = .ok () w' ∧
      Ref φ (h.upd b (.cells n (rowFrom c o cs) true)) w' ∧ Fr φ h w w' ∧ Grow φ h φ (h.upd b (.cells n (rowFrom c o cs) true)) w := by
  obtain ⟨r, ro, ws, e, fz, h1, h2, h3, h4, h5⟩ := hr.blk b _ hg
  obtain ⟨rfl, rfl⟩ := h5 rfl
  have hlen := hl.length
  have hown : Own h b := .inl ⟨n, c, hg⟩
  have hsz : o + vs.length ≤ ws.size := by omega
  have hro : ∀ b2, Ro (h.upd b (.cells n (rowFrom c o cs) true)) b2 → Ro h b2 := by
    intro b2 hb2
    obtain ⟨n', c', e'⟩ := hb2
    by_cases hb : b2 = b
    · subst hb; rw [H.get_upd_same] at e'; cases e'
    · exact ⟨n', c', by rwa [H.get_upd_ne _ _ hb] at e'⟩
  refine ⟨r, _, h1, run_storeCells_at P r o e vs 0 ws w h2 (by simpa using hsz) (fun v hv => ?_), ⟨?_, ?_, ?_, ?_, ?_, ?_, ?_⟩, ⟨by simp, ?_, rfl, rfl, rfl⟩, ⟨Phi.le_refl φ, ?_, Nat.le_refl _, fun _ _ e _ => e, hro⟩⟩
  · have := hf v hv
    cases v <;> simp_all [flatV, Value.oneCell']
  · intro b' k e'
    by_cases hb : b' = b
    · subst hb
      rw [H.get_upd_same] at e'
      cases e'
      refine ⟨r, 0, _, e, (0, 0), h1, setRow_heap w r ws _ e (0, 0) h2, ?_, ?_, fun _ => ⟨rfl, rfl⟩⟩
      · simp; omega
      · intro i x hi hx
        rw [rowFrom_get] at hx
        simp only [Nat.zero_add, Nat.add_zero, List.getElem?_toArray]
        rw [splice_get _ _ _ _ (by simpa using hsz)]
        by_cases hin : o ≤ i ∧ i < o + cs.length
        · rw [if_pos hin] at hx
          rw [if_pos (by omega)]
          obtain ⟨v, hv1, hv2⟩ := hl.get _ x hx
          exact ⟨v, hv1, hv2, hf v (List.mem_of_getElem? hv1)⟩
        · rw [if_neg hin] at hx
          rw [if_neg (by omega)]
          obtain ⟨v, hv1, hv2⟩ := h4 i x hi hx
          exact ⟨v, by simpa using hv1, hv2⟩
    · rw [H.get_upd_ne _ _ hb] at e'
      have hB := hr.blk b' k e'
      have hother : k ≠ .dead → ∀ r' o', φ b' = some (r', o') → r' ≠ r := by
        intro hk r' o' e1 er
        subst er
        cases k with
        | cells n' c' own' =>
          cases own' with
          | true => exact hb (hr.inj b' b r' o' 0 (.inl ⟨n', c', e'⟩) hown e1 h1)
          | false => exact hr.sep b b' r' 0 o' hown ⟨n', c', e'⟩ h1 e1
        | map es => exact hb (hr.inj b' b r' o' 0 (.inr ⟨es, e'⟩) hown e1 h1)
        | dead => exact hk rfl
      by_cases hk : k = .dead
      · subst hk; trivial
      · exact hB.keep (Phi.le_refl φ) (fun r' o' e1 _ => setRow_other w r r' _ (hother hk r' o' e1))
  · intro b1 b2 r' o1 o2 hb1 hb2
    exact hr.inj b1 b2 r' o1 o2 (hb1.of_upd hg) (hb2.of_upd hg)
  · intro b1 b2 r' o1 o2 hb1 hb2
    exact hr.sep b1 b2 r' o1 o2 (hb1.of_upd hg) (hro _ hb2)
  · exact hr.dom
  · intro b' hb'
    rw [H.next_upd] at hb'
    by_cases hb : b' = b
    · subst hb; rw [hr.new _ hb'] at hg; cases hg
    · rw [H.get_upd_ne _ _ hb]; exact hr.new b' hb'
  · exact hr.glob
  · intro b' x hx
    obtain ⟨g1, g2⟩ := hr.room b' x hx
    refine ⟨g1, fun n' c' own' r' o' e1 e2 => ?_⟩
    by_cases hb : b' = b
    · subst hb
      rw [H.get_upd_same] at e1
      cases e1
      rw [h1] at e2
      cases e2
      obtain ⟨k', z, ws', e', fz, k1, k2, k3⟩ := g2 n c true r 0 hg h1
      rw [h2] at k2
      cases k2
      refine ⟨k', z, _, e, (0, 0), ?_, setRow_heap w r ws _ e (0, 0) h2, ?_⟩
      · rw [rowFrom_get, if_neg (by omega)]; exact k1
      · simp; omega
    · rw [H.get_upd_ne _ _ hb] at e1
      obtain ⟨k', z, ws', e', fz, k1, k2, k3⟩ := g2 n' c' own' r' o' e1 e2
      by_cases er : r' = r
      · subst er
        rw [h2] at k2
        cases k2
        exact ⟨k', z, _, e, (0, 0), k1, setRow_heap w r' ws _ e (0, 0) h2, by simp; omega⟩
      · exact ⟨k', z, ws', e', fz, k1, by rw [setRow_other w r r' _ er]; exact k2, k3⟩
  · intro r' _ hoff
    exact setRow_other w r r' _ (fun er => hoff b 0 hown (by rw [er]; exact h1))
  · intro b' r' o' hb' e'
    exact .inr (fun hoff => hoff b' o' (hb'.of_upd hg) e')
/-- cells read -/
theorem rdN_some {c : T5 AV} {res : AV × H} : ∀ (n o : Nat) (f : List AV → R), rdN c o n f = some res → ∃ l : List AV, l.length = n ∧ (∀ i, i < n → c.get (o + i) = l[i]?) ∧ f l = some res := by
  intro n
  induction n with
  | zero => intro o f e; exact ⟨[], rfl, fun i hi => absurd hi (Nat.not_lt_zero _), e⟩
  | succ n ih =>
    intro o f e
    have e' : onOpt (c.get o) (fun v => rdN c (o + 1) n (fun l => f (v :: l))) = some res := e
    obtain ⟨v, hv, e2⟩ := onOpt_some e'
    obtain ⟨l, h1, h2, h3⟩ := ih (o + 1) _ e2
    refine ⟨v :: l, by simp [h1], fun i hi => ?_, h3⟩
    cases i with
    | zero => simpa using hv
    | succ i => have := h2 i (by omega); simpa [Nat.add_assoc, Nat.add_comm 1 i] using this
theorem list_of_get {φ : Phi} {Q : Nat → Value → Prop} : ∀ (l : List AV), (∀ i x, l[i]? = some x → ∃ v, Q i v ∧ VRel φ x v ∧ flatV v = true) →
    ∃ vs : List Value, LRel φ l vs ∧ (∀ v ∈ vs, flatV v = true) ∧ ∀ i v, vs[i]? = some v → Q i v := by
  intro l
  induction l generalizing Q with
  | nil => intro _; exact ⟨[], .nil, (fun _ h => by cases h), (fun i v h => by simp at h)⟩
  | cons x l ih =>
    intro h
    obtain ⟨v, hq, hv, hf⟩ := h 0 x rfl
    obtain ⟨vs, h1, h2, h3⟩ := ih (Q := fun i => Q (i + 1)) (fun i y hy => h (i + 1) y (by simpa using hy))
    refine ⟨v :: vs, .cons _ _ _ _ hv h1, fun u hu => ?_, fun i u hu => ?_⟩
    · cases hu with
      | head => exact hf
      | tail _ hu => exact h2 u hu
    · cases i with
      | zero => simp at hu; subst hu; exact hq
      | succ i => exact h3 i u (by simpa using hu)
theorem ldK_some {φ : Phi} {h : H} {w : World} {P : Program} {b o s : Nat} {f : List AV → R} {res : AV × H} (hr : Ref φ h w) (e : ldK h b o s f = some res) :
    ∃ l vs r ro, φ b = some (r, ro) ∧ LRel φ l vs ∧ (∀ v ∈ vs, flatV v = true) ∧ l.length = s ∧ f l = some res ∧ (loadCells ⟨r, ro + o, none⟩ s).run P w = .ok vs.toArray w ∧
      (∀ i v, vs[i]? = some v → w.cell? ⟨r, ro + o + i, none⟩ = some v) := by
  unfold ldK at e
  split at e
  · rename_i n c own hg
    obtain ⟨hle, e⟩ := guardB_some e
    rw [Nat.ble_eq] at hle
    obtain ⟨l, h1, h2, h3⟩ := rdN_some (res := res) s o f e
    obtain ⟨r, ro, ws, ty, fz, g1, g2, g3, g4, _⟩ := hr.blk b _ hg
    obtain ⟨vs, k1, k2, k3⟩ := list_of_get (φ := φ) (Q := fun i v => w.cell? ⟨r, ro + o + i, none⟩ = some v) l (fun i x hx => by
      have hi : i < s := by rw [← h1]; exact (List.getElem?_eq_some_iff.1 hx).1
      obtain ⟨v, hv1, hv2, hv3⟩ := g4 (o + i) x (by omega) (by rw [h2 i hi]; exact hx)
      exact ⟨v, by simp [World.cell?, g2, Nat.add_assoc, hv1], hv2, hv3⟩)
    refine ⟨l, vs, r, ro, g1, k1, k2, h1, h3, ?_, k3⟩
    have := run_loadCells_list (P := P) w ⟨r, ro + o, none⟩ vs (fun j v hv => by rw [addr_add]; exact k3 j v hv)
    rwa [← k1.length, h1] at this
  · cases e
end Go.Ev
end
section
/- Values as cells, cells laid into a row; variables read and written. -/
namespace Go.Ev
def setG {α : Type} : List α → Nat → List α → List α
  | l, _, [] => l
  | l, i, v :: vs => setG (l.set i v) (i + 1) vs
theorem setList_eq : ∀ (vs l : List AV) (o : Nat), setList l o vs = setG l o vs
  | [], _, _ => rfl
  | v :: vs, l, o => setList_eq vs (l.set o v) (o + 1)
theorem setG_length {α : Type} : ∀ (vs l : List α) (o : Nat), (setG l o vs).length = l.length
  | [], _, _ => rfl
  | v :: vs, l, o => by rw [setG, setG_length vs]; simp
theorem setG_get {α : Type} : ∀ (vs l : List α) (o i : Nat), (setG l o vs)[i]? = if o ≤ i ∧ i < o + vs.length ∧ i < l.length then vs[i - o]? else l[i]?
  | [], l, o, i => by rw [setG, if_neg (by simp only [List.length_nil]; omega)]
  | v :: vs, l, o, i => by
    rw [setG, setG_get vs, List.length_set, List.getElem?_set]
    by_cases h1 : o = i
    · subst h1
      rw [if_neg (by omega), if_pos rfl]
      by_cases h2 : o < l.length
      · rw [if_pos h2, if_pos ⟨Nat.le_refl _, by simp, h2⟩]; simp
      · rw [if_neg h2, if_neg (by omega), List.getElem?_eq_none (by omega)]
    · rw [if_neg h1]
      by_cases h2 : o + 1 ≤ i ∧ i < o + 1 + vs.length ∧ i < l.length
      · rw [if_pos h2, if_pos ⟨by omega, by simp; omega, h2.2.2⟩]
        have : i - o = (i - (o + 1)) + 1 := by omega
        rw [this, List.getElem?_cons_succ]
      · rw [if_neg h2, if_neg (by simp only [List.length_cons]; omega)]
theorem LRel.setG {φ : Phi} : ∀ {k us}, LRel φ k us → ∀ {l vs} (o : Nat), LRel φ l vs → LRel φ (Ev.setG l o k) (Ev.setG vs o us)
  | _, _, .nil, _, _, _, h => h
  | _, _, .cons x v k us hx hk, _, _, o, h => LRel.setG hk (o + 1) (LRel.set hx o h)
theorem setG_mem {α : Type} : ∀ (vs l : List α) (o : Nat) (x : α), x ∈ setG l o vs → x ∈ l ∨ x ∈ vs
  | [], _, _, _, h => .inl h
  | v :: vs, l, o, x, h => by
    rcases setG_mem vs (l.set o v) (o + 1) x h with h | h
    · rcases List.mem_or_eq_of_mem_set h with h | h
      · exact .inl h
      · exact .inr (by simp [h])
    · exact .inr (by simp [h])
theorem splice_eq (l vs : List Value) (o : Nat) (h : o + vs.length ≤ l.length) : l.take o ++ vs ++ l.drop (o + vs.length) = setG l o vs := by
  apply List.ext_getElem?
  intro i
  rw [splice_get _ _ _ _ h, setG_get]
  by_cases h1 : o ≤ i ∧ i < o + vs.length
  · rw [if_pos h1, if_pos ⟨h1.1, h1.2, by omega⟩]
  · rw [if_neg h1, if_neg (by omega)]
/-- the cells of a value -/
theorem cellsK_some {φ : Phi} {ag : Bool} {v : AV} {f : List AV → R} {res : AV × H} {u : Value} (hv : VRel φ v u) (e : cellsK ag v f = some res) :
    ∃ l us, LRel φ l us ∧ (∀ x ∈ us, flatV x = true) ∧ u.cells = us.toArray ∧ f l = some res := by
  cases ag with
  | true =>
    cases hv with
    | agg l us hl hf => exact ⟨l, us, hl, hf, rfl, e⟩
    | _ => cases e
  | false =>
    have e' : flatA v = true ∧ f [v] = some res := by
      cases v <;> first | exact ⟨rfl, e⟩ | cases e
    have hf := hv.flatA_eq
    rw [e'.1] at hf
    refine ⟨[v], [u], .cons _ _ _ _ hv .nil, fun x hx => ?_, ?_, e'.2⟩
    · simp at hx; subst hx; exact hf
    · cases u <;> first | rfl | cases hf
theorem AV.cells_rel {φ : Phi} {x : AV} {u : Value} (hv : VRel φ x u) (ht : ∀ l, x ≠ .tuple l) : ∃ us, LRel φ x.cells us ∧ (∀ v ∈ us, flatV v = true) ∧ u.cells = us.toArray := by
  cases hv with
  | agg l us hl hf => exact ⟨us, hl, hf, rfl⟩
  | tuple l us hl => exact absurd rfl (ht l)
  | _ => exact ⟨[_], .cons _ _ _ _ (by first | assumption | (constructor <;> assumption) | constructor) .nil, by simp [flatV], rfl⟩
section
variable {P : Program} {φ : Phi} {lam : Nat → Nat} {T : List (Option FV)} {L : List (Option LC)} {h : H} {w : World} {a : Act}
theorem aggT_some {t : TypeId} {b : Bool} (e : aggT P t = some b) (w : World) : (isAgg t).run P w = .ok b w := by
  unfold aggT at e
  split at e
  · rename_i fs hd; cases e; simp [isAgg, run_underlying' hd]
  · rename_i n x hd; cases e; simp [isAgg, run_underlying' hd]
  · rename_i d h1 h2 hd
    cases e
    cases d <;> first | (exact absurd rfl (h1 _)) | (exact absurd rfl (h2 _ _)) | simp [isAgg, run_underlying' hd]
  · cases e
/-- a variable of the frame's own written -/
theorem loc_write (hs : SRel φ lam T L h a.tmps w) {d off : Nat} {cs k : List AV} {us : List Value} (hd : look L d = some (.cells cs)) (hk : LRel φ k us)
    (hf : ∀ x ∈ us, flatV x = true) (hle : off + k.length ≤ cs.length) :
    ∃ w', (storeCells ⟨lam d, off, none⟩ us 0).run P w = .ok () w' ∧ SRel φ lam T (setAt L d (.cells (setList cs off k))) h a.tmps w' ∧ FrX φ h lam L w w' ∧ Grow φ h φ h w := by
  obtain ⟨⟨ws, e, h1, h2, h3⟩, hoff, hlt⟩ := hs.loc d _ hd
  have hlen := hk.length
  have hcl := h2.length
  have hsz : off + us.length ≤ ws.length := by omega
  have hdl := look_lt hd
  have hother : ∀ r, r ≠ lam d → (w.setRow (lam d) (ws.toArray.toList.take (off + 0) ++ us ++ ws.toArray.toList.drop (off + 0 + us.length)).toArray).heap[r]? = w.heap[r]? := fun r hr => setRow_other w _ r _ hr
  have hlam : ∀ b k r o, h.get b = some k → k ≠ .dead → φ b = some (r, o) → r ≠ lam d := by
    intro b k r o hk hk2 e er
    subst er
    cases k with
    | cells n c own =>
      cases own with
      | true => exact hoff b o (.inl ⟨n, c, hk⟩) e
      | false => exact hs.ro d _ b o hd ⟨n, c, hk⟩ e
    | map es => exact hoff b o (.inr ⟨es, hk⟩) e
    | dead => exact hk2 rfl
  refine ⟨_, run_storeCells_at P (lam d) off e us 0 ws.toArray w h1 (by simpa using hsz) (fun v hv => ?_), ⟨?_, hs.size, ?_, ?_, ?_, ?_, ?_⟩,
    ⟨by simp, fun r _ _ hne => hother r (hne d _ hd), rfl, rfl, rfl⟩, Grow.refl _ _ _⟩
  · have := hf v hv
    cases v <;> simp_all [flatV, Value.oneCell']
  · refine ⟨fun b k hb => ?_, hs.ref.inj, hs.ref.sep, hs.ref.dom, hs.ref.new, hs.ref.glob, fun b x hx => ?_⟩
    · by_cases hk : k = .dead
      · subst hk; trivial
      · exact (hs.ref.blk b k hb).keep (Phi.le_refl φ) (fun r o e1 _ => hother r (hlam b k r o hb hk e1))
    · obtain ⟨g1, g2⟩ := hs.ref.room b x hx
      refine ⟨g1, fun n c own r o e1 e2 => ?_⟩
      obtain ⟨k', z, ws', e', fz, k1, k2, k3⟩ := g2 n c own r o e1 e2
      exact ⟨k', z, ws', e', fz, k1, by rw [hother r (hlam b _ r o e1 (fun e => by cases e) e2)]; exact k2, k3⟩
  · intro s x hx
    obtain ⟨v, hv1, hv2⟩ := hs.val s x hx
    refine ⟨v, hv1, ?_⟩
    cases x with
    | v x => exact hv2
    | lptr d' o' => exact hv2
    | lrow rs n =>
      obtain ⟨r, ws', e', g1, g2, g3, g4, g5⟩ := hv2
      have hne : r ≠ lam d := by
        intro er
        subst er
        exact hs.row s rs n d _ v hx hd hv1 g1
      exact ⟨r, ws', e', g1, by rw [hother r hne]; exact g2, g3, g4, g5⟩
  · intro d' x hx
    by_cases hdd : d' = d
    · subst hdd
      rw [look_setAt_same _ _ _ hdl] at hx
      cases hx
      refine ⟨⟨setG ws off us, e, ?_, ?_, ?_⟩, hoff, by simpa using hlt⟩
      · rw [setRow_heap w _ _ _ e (0, 0) h1]
        simp only [Nat.add_zero]
        rw [splice_eq ws us off hsz]
      · rw [setList_eq]; exact hk.setG off h2
      · intro u hu
        rcases setG_mem _ _ _ _ hu with hu | hu
        · exact h3 u hu
        · exact hf u hu
    · rw [look_setAt_ne _ _ _ _ hdd] at hx
      obtain ⟨g1, g2, g3⟩ := hs.loc d' x hx
      have hne : lam d' ≠ lam d := fun er => hdd (hs.inj d' d x _ hx hd er)
      refine ⟨?_, g2, by simpa using g3⟩
      cases x with
      | cells cs' =>
        obtain ⟨ws', e', k1, k2⟩ := g1
        exact ⟨ws', e', by rw [hother _ hne]; exact k1, k2⟩
      | iter s p =>
        obtain ⟨b, k1, k2⟩ := g1
        exact ⟨b, by rw [hother _ hne]; exact k1, k2⟩
  · intro d1 d2 x1 x2 hx1 hx2 er
    have key : ∀ d1 x1, look (setAt L d (.cells (setList cs off k))) d1 = some x1 → ∃ y, look L d1 = some y := by
      intro d1 x1 hx1
      by_cases hdd : d1 = d
      · subst hdd; exact ⟨_, hd⟩
      · rw [look_setAt_ne _ _ _ _ hdd] at hx1; exact ⟨_, hx1⟩
    obtain ⟨y1, hy1⟩ := key d1 x1 hx1
    obtain ⟨y2, hy2⟩ := key d2 x2 hx2
    exact hs.inj d1 d2 y1 y2 hy1 hy2 er
  · intro d1 x1 b o hx1 hb
    by_cases hdd : d1 = d
    · subst hdd; exact hs.ro d1 _ b o hd hb
    · rw [look_setAt_ne _ _ _ _ hdd] at hx1; exact hs.ro d1 x1 b o hx1 hb
  · intro s rs n d1 x1 v hx hx1 hv
    by_cases hdd : d1 = d
    · subst hdd; exact hs.row s rs n d1 _ v hx hd hv
    · rw [look_setAt_ne _ _ _ _ hdd] at hx1; exact hs.row s rs n d1 x1 v hx hx1 hv
end
end Go.Ev
end
section
/- Variables read and written, variables made. -/
namespace Go.Ev
section
variable {P : Program} {φ : Phi} {lam : Nat → Nat} {T : List (Option FV)} {L : List (Option LC)} {h : H} {w : World} {a : Act}
theorem run_loadAt_agg {t : TypeId} {s : Nat} {ad : Addr} {vs : Array Value} (ha : aggT P t = some true) (hz : sizeT P t = some s) (hl : (loadCells ad s).run P w = .ok vs w) :
    (Instr.loadAt t (.pointer (some ad))).run P w = .ok (.agg vs) w := by
  simp [Instr.loadAt, Instr.sureAddr, loadVar, aggT_some ha, run_sizeT hz, hl]
theorem run_loadAt_one {t : TypeId} {ad : Addr} {v : Value} (ha : aggT P t = some false) (hl : w.cell? ad = some v) :
    (Instr.loadAt t (.pointer (some ad))).run P w = .ok v w := by
  simp [Instr.loadAt, Instr.sureAddr, loadVar, aggT_some ha, hl]
theorem getN_some {l : List AV} {o s : Nat} {k : List AV} (e : getN l o s = some k) : (l.drop o).take s = k ∧ o + s ≤ l.length := by
  unfold getN at e
  cases hb : Nat.ble (o + s) l.length with
  | false => rw [hb] at e; cases e
  | true => rw [hb] at e; exact ⟨Option.some.inj e, Nat.le_of_ble_eq_true hb⟩
/-- what a reading of a variable says -/
theorem loadK_some {t : TypeId} {x : Operand} {f : AV → R} {res : AV × H} (hs : SRel φ lam T L h a.tmps w) (e : loadK P T L h t x f = some res) :
    ∃ v u, f v = some res ∧ VRel φ v u ∧ (Instr.loadAt t (a.eval x)).run P w = .ok u w := by
  unfold loadK at e
  split at e
  · rename_i d off s hl hz
    have hx := locOf_loc hs hl
    split at e
    · rename_i cs hd
      obtain ⟨⟨ws, ty, h1, h2, h3⟩, _, _⟩ := hs.loc d _ hd
      have hcell : ∀ (i : Nat) (v : Value), ws[i]? = some v → w.cell? ⟨lam d, i, none⟩ = some v := fun i v hv => by simp [World.cell?, h1, hv]
      split at e
      · rename_i ha
        split at e
        · rename_i l hg
          obtain ⟨rfl, hle⟩ := getN_some hg
          refine ⟨_, .agg ((ws.drop off).take s).toArray, e, .agg _ _ ((h2.drop off).take s) (fun v hv => h3 v (List.mem_of_mem_drop (List.mem_of_mem_take hv))), ?_⟩
          rw [hx]
          refine run_loadAt_agg ha hz ?_
          have hlen : ((ws.drop off).take s).length = s := by have := h2.length; simp; omega
          have := run_loadCells_list (P := P) w ⟨lam d, off, none⟩ ((ws.drop off).take s) (fun j v hv => by
            rw [addr_add]
            refine hcell _ v ?_
            rw [List.getElem?_take] at hv
            split at hv
            · rwa [List.getElem?_drop] at hv
            · cases hv)
          rwa [hlen] at this
        · cases e
      · rename_i ha
        split at e
        · rename_i v hv
          obtain ⟨u, hu, hvu⟩ := h2.get off v hv
          refine ⟨v, u, e, hvu, ?_⟩
          rw [hx]
          exact run_loadAt_one ha (hcell off u hu)
        · cases e
      · cases e
    · cases e
  · rename_i b o s hl hz
    have hx := locOf_mem hs hl
    generalize hz' : a.eval x = z at hx
    cases hx with | ptr _ _ r ro hφ =>
    split at e
    · rename_i ha
      obtain ⟨l, vs, r', ro', g1, g2, g3, g4, g5, g6, g7⟩ := ldK_some (P := P) hs.ref e
      rw [hφ] at g1
      cases g1
      exact ⟨_, _, g5, .agg _ _ g2 g3, run_loadAt_agg ha hz g6⟩
    · rename_i ha
      obtain ⟨l, vs, r', ro', g1, g2, g3, g4, g5, g6, g7⟩ := ldK_some (P := P) hs.ref e
      rw [hφ] at g1
      cases g1
      cases g2 with
      | nil => cases g4
      | cons v u l us hv hl =>
        exact ⟨v, u, g5, hv, run_loadAt_one ha (by simpa using g7 0 u rfl)⟩
    · cases e
  · cases e
theorem step_load {o : Oper} {K : FV → List (Option LC) → H → R} {res : AV × H} {t : TypeId} {x : Operand} (hs : SRel φ lam T L h a.tmps w)
    (ho : o.op = .load t x) (e : simple P T L h K (.load t x) = some res) : Step P φ lam T L h a w o K res := by
  simp only [simple] at e
  obtain ⟨v, u, h1, h2, h3⟩ := loadK_some hs e
  exact Step.pure hs (by simp [execOp, ho, h3]) h2 h1
theorem run_storeAt {t : TypeId} {s : Nat} {ad : Addr} {v : Value} {us : List Value} {w' : World} (hz : sizeT P t = some s) (hc : v.cells = us.toArray) (hl : us.length = s)
    (hst : (storeCells ad us 0).run P w = .ok () w') : (Instr.storeAt t (.pointer (some ad)) v).run P w = .ok () w' := by
  simp [Instr.storeAt, Instr.sureAddr, storeVar, run_sizeT hz, hc, hl, hst]
theorem stK_some {b o : Nat} {vs : List AV} {f : H → R} {res : AV × H} (e : stK h b o vs f = some res) :
    ∃ n c, h.get b = some (.cells n c true) ∧ o + vs.length ≤ n ∧ f (h.upd b (.cells n (rowFrom c o vs) true)) = some res := by
  unfold stK at e
  split at e
  · rename_i n c hg
    obtain ⟨hle, e⟩ := guardB_some e
    exact ⟨n, c, hg, Nat.le_of_ble_eq_true hle, e⟩
  · cases e
theorem step_store {o : Oper} {K : FV → List (Option LC) → H → R} {res : AV × H} {t : TypeId} {x y : Operand} (hs : SRel φ lam T L h a.tmps w)
    (ho : o.op = .store t x y) (e : simple P T L h K (.store t x y) = some res) : Step P φ lam T L h a w o K res := by
  simp only [simple] at e
  split at e
  · rename_i v hv
    have hvr := opd_rel hs hv
    unfold storeK at e
    split at e
    · rename_i d off s hl hz
      have hx := locOf_loc hs hl
      split at e
      · rename_i cs hd
        obtain ⟨l, us, h1, h2, h3, h4⟩ := cellsK_some hvr e
        split at h4
        · rename_i hb
          simp only [Bool.and_eq_true, Nat.ble_eq] at hb
          have hls : l.length = s := Nat.eq_of_beq_eq_true hb.1
          obtain ⟨w', k1, k2, k3, k4⟩ := loc_write (P := P) (off := off) hs hd h1 h2 (by omega)
          have hrun := run_storeAt (P := P) hz h3 (by rw [← h1.length]; exact hls) k1
          refine ⟨.v undef, _, h, φ, Go.undef, w', .skip, ?_, .inr ⟨rfl, rfl⟩, h4, ?_, k2, k3, k4, ?_⟩
          · simp [execOp, ho, hx, hrun]
          · exact .tuple [] [] .nil
          · intro d1 x1 hx1
            by_cases hdd : d1 = d
            · subst hdd; exact ⟨_, hd⟩
            · rw [look_setAt_ne _ _ _ _ hdd] at hx1; exact ⟨_, hx1⟩
        · cases h4
      · cases e
    · rename_i b off s hl hz
      have hx := locOf_mem hs hl
      obtain ⟨l, us, h1, h2, h3, h4⟩ := cellsK_some hvr e
      split at h4
      · rename_i hb
        have hls : l.length = s := Nat.eq_of_beq_eq_true hb
        obtain ⟨n, c, g1, g2, g3⟩ := stK_some h4
        obtain ⟨r, w', k1, k2, k3, k4, k5⟩ := hs.ref.write (P := P) g1 h1 h2 g2
        generalize hz' : a.eval x = z at hx
        cases hx with | ptr _ _ r' ro hφ =>
        rw [k1] at hφ
        cases hφ
        have hrun := run_storeAt (P := P) hz h3 (by rw [← h1.length]; exact hls) k2
        refine ⟨.v undef, L, _, φ, Go.undef, w', .skip, ?_, .inr ⟨rfl, rfl⟩, g3, ?_, hs.carry k3 k4 k5, k4.toX _ _, k5, fun _ x hx => ⟨x, hx⟩⟩
        · simp [execOp, ho, hz', hrun]
        · exact .tuple [] [] .nil
      · cases h4
    · cases e
  · cases e
theorem Step.made {o : Oper} {K : FV → List (Option LC) → H → R} {res : AV × H} {x : AV} {v : Value} {φ' : Phi} {h' : H} {w' : World} (hs : SRel φ lam T L h a.tmps w)
    (hrun : (execOp a.eval o).run P w = .ok (.value v) w') (hr : Ref φ' h' w' ∧ Fr φ h w w' ∧ Grow φ h φ' h' w) (hv : VRel φ' x v) (hk : K (.v x) L h' = some res) : Step P φ lam T L h a w o K res :=
  ⟨.v x, L, h', φ', v, w', _, hrun, .inl rfl, hk, hv, hs.carry hr.1 hr.2.1 hr.2.2, hr.2.1.toX _ _, hr.2.2, fun _ x hx => ⟨x, hx⟩⟩
theorem zeroT_some {t : TypeId} {z : AV} (e : zeroT P t = some z) : ∃ v, cv v = some z ∧ (∀ l, z ≠ .tuple l) ∧ (∀ w, (zeroValue t).run P w = .ok v w) ∧ ∃ i, P.info? t = some i ∧ i.zero = some v := by
  unfold zeroT at e
  split at e
  · rename_i i hi
    split at e
    · rename_i v hv
      have he : cv v = some z ∧ ∀ l, z ≠ .tuple l := by
        split at e
        · cases e
        · rename_i r hr
          refine ⟨e, fun l el => hr l ?_⟩
          rw [e, el]
      exact ⟨v, he.1, he.2, fun w => by simp [zeroValue, typeInfo, hi, hv], i, hi, hv⟩
    · cases e
  · cases e
theorem run_newVar (t : TypeId) (v : Value) : (newVar t v).run P w = .ok ⟨w.heap.size, 0, none⟩ (w.alloc (.cells v.cells t)) := by
  simp [newVar, newRow]
theorem step_box {o : Oper} {K : FV → List (Option LC) → H → R} {res : AV × H} {t : TypeId} {x : Operand} (hs : SRel φ lam T L h a.tmps w)
    (ho : o.op = .box t x) (e : simple P T L h K (.box t x) = some res) : Step P φ lam T L h a w o K res := by
  simp only [simple] at e
  split at e
  · rename_i v hv
    obtain ⟨l, us, h1, h2, h3, h4⟩ := cellsK_some (opd_rel hs hv) e
    have hr := hs.ref.allocCells (e := t) h1 h2
    refine Step.made hs ?_ hr (.ptr h.next 0 w.heap.size 0 (Phi.ext_same _ _ _ _)) h4
    simp [execOp, ho, Instr.box, run_newVar, h3]
  · cases e
theorem step_alloc {o : Oper} {K : FV → List (Option LC) → H → R} {res : AV × H} {t : TypeId} (hs : SRel φ lam T L h a.tmps w)
    (ho : o.op = .alloc t) (e : simple P T L h K (.alloc t) = some res) : Step P φ lam T L h a w o K res := by
  simp only [simple] at e
  split at e
  · rename_i z hz
    obtain ⟨v, h1, hnt, h2, _⟩ := zeroT_some hz
    have hv : VRel φ z v := cv_rel h1
    obtain ⟨us, k1, k2, k3⟩ := AV.cells_rel hv hnt
    have hr := hs.ref.allocCells (e := t) k1 k2
    refine Step.made hs ?_ hr (.ptr h.next 0 w.heap.size 0 (Phi.ext_same _ _ _ _)) e
    simp [execOp, ho, Instr.alloc, h2, run_newVar, k3]
  · cases e
end
end Go.Ev
end
section
/- Values built part by part; rows made. -/
namespace Go.Ev
theorem fold_set : ∀ (us cs : List Value) (off k : Nat), (us.zipIdx k).foldl (fun (cs : Array Value) (p : Value × Nat) => cs.setIfInBounds (off + p.2) p.1) cs.toArray = (setG cs (off + k) us).toArray
  | [], cs, off, k => rfl
  | u :: us, cs, off, k => by
    rw [List.zipIdx_cons, List.foldl_cons]
    have : (cs.toArray.setIfInBounds (off + k) u) = (cs.set (off + k) u).toArray := by simp
    simp only [this]
    rw [fold_set us, setG]
    rfl
inductive PRel (φ : Phi) : List (Nat × AV) → List (Nat × Value) → Prop
  | nil : PRel φ [] []
  | cons (i : Nat) (x : AV) (v : Value) (l : List (Nat × AV)) (vs : List (Nat × Value)) : VRel φ x v → PRel φ l vs → PRel φ ((i, x) :: l) ((i, v) :: vs)
theorem fillK_some {φ : Phi} {place : Nat → Option (Nat × Nat × Bool)} {place' : Nat → Option (Nat × Nat)} (hp : ∀ i o s ag, place i = some (o, s, ag) → place' i = some (o, s)) {f : List AV → R} {res : AV × H} :
    ∀ {ps : List (Nat × AV)} {us : List (Nat × Value)}, PRel φ ps us → ∀ {cells : List AV} {ws : List Value}, LRel φ cells ws → (∀ v ∈ ws, flatV v = true) → fillK place cells ps f = some res →
    ∃ l vs, Instr.fill place' ws.toArray us = some vs.toArray ∧ LRel φ l vs ∧ (∀ v ∈ vs, flatV v = true) ∧ l.length = cells.length ∧ f l = some res
  | _, _, .nil, cells, ws, hl, hf, e => ⟨cells, ws, rfl, hl, hf, rfl, e⟩
  | _, _, .cons i x v ps us hx hps, cells, ws, hl, hf, e => by
    unfold fillK at e
    split at e
    · cases e
    · rename_i off size ag hpl
      obtain ⟨k, zs, h1, h2, h3, h4⟩ := cellsK_some hx e
      split at h4
      · rename_i hb
        simp only [Bool.and_eq_true, Nat.ble_eq] at hb
        have hks : k.length = size := Nat.eq_of_beq_eq_true hb.1
        have hfl : ∀ u ∈ setG ws off zs, flatV u = true := fun u hu => by
          rcases setG_mem _ _ _ _ hu with hu | hu
          · exact hf u hu
          · exact h2 u hu
        obtain ⟨l, vs, g1, g2, g3, g4, g5⟩ := fillK_some hp hps (h1.setG off hl) hfl (by rw [← setList_eq]; exact h4)
        refine ⟨l, vs, ?_, g2, g3, by rw [g4, setG_length], g5⟩
        have hz : zs.length = size := by rw [← h1.length]; exact hks
        have hw := hl.length
        have hno : ¬ (zs.length ≠ size ∨ off + zs.length > ws.length) := by omega
        have hfs := fold_set zs ws off 0
        rw [Instr.fill, hp i off size ag hpl]
        simp only [h3, List.size_toArray]
        rw [if_neg (by simpa using hno)]
        rw [← g1]
        congr 1
        simpa using hfs
      · cases h4
theorem partsOf_some {φ : Phi} {lam : Nat → Nat} {T : List (Option FV)} {L : List (Option LC)} {h : H} {w : World} {a : Act} (hs : SRel φ lam T L h a.tmps w) :
    ∀ {ps : List (Nat × Operand)} {l : List (Nat × AV)}, partsOf T ps = some l → PRel φ l (ps.map fun (i, x) => (i, a.eval x))
  | [], l, e => by simp only [partsOf, Option.some.injEq] at e; subst e; exact .nil
  | (i, x) :: ps, l, e => by
    simp only [partsOf] at e
    split at e
    · rename_i v hv
      split at e
      · rename_i k hk
        cases e
        exact .cons i v _ k _ (opd_rel hs hv) (partsOf_some hs hk)
      · cases e
    · cases e
section
variable {P : Program} {φ : Phi} {lam : Nat → Nat} {T : List (Option FV)} {L : List (Option LC)} {h : H} {w : World} {a : Act}
theorem places_some : ∀ (fs : List Field), (fs.all (fun f => (sizeT P f.type).isSome)) = true →
    ∃ pl, fs.mapM (fun f => (P.info? f.type).map fun i => (f.offset, i.size)) = some pl ∧ ∀ i o s ag, placeS P fs i = some (o, s, ag) → pl[i]? = some (o, s)
  | [], _ => ⟨[], rfl, fun i o s ag e => by simp [placeS] at e⟩
  | f :: fs, e => by
    simp only [List.all_cons, Bool.and_eq_true] at e
    obtain ⟨pl, h1, h2⟩ := places_some fs e.2
    obtain ⟨s, hsz⟩ := Option.isSome_iff_exists.1 e.1
    obtain ⟨i, hi, his⟩ := sizeT_some hsz
    refine ⟨(f.offset, s) :: pl, by simp [List.mapM_cons, hi, his, h1], fun j o s' ag hj => ?_⟩
    cases j with
    | zero => simp [placeS, hsz] at hj; simp [hj.1, hj.2.1]
    | succ j => simpa using h2 j o s' ag (by simpa [placeS] using hj)
theorem step_build {o : Oper} {K : FV → List (Option LC) → H → R} {res : AV × H} {t : TypeId} {ps : Array (Nat × Operand)} (hs : SRel φ lam T L h a.tmps w)
    (ho : o.op = .build t ps) (e : simple P T L h K (.build t ps) = some res) : Step P φ lam T L h a w o K res := by
  simp only [simple] at e
  split at e
  · rename_i fs z l ht hz hps
    obtain ⟨v, h1, hnt, _, i, hi, hiz⟩ := zeroT_some hz
    obtain ⟨us, k1, k2, k3⟩ := AV.cells_rel (cv_rel (φ := φ) h1) hnt
    split at e
    · rename_i hall
      obtain ⟨pl, p1, p2⟩ := places_some fs.toList hall
      obtain ⟨l', vs, g1, g2, g3, _, g5⟩ := fillK_some (place' := (pl.toArray[·]?)) (fun i o s ag he => by simpa using p2 i o s ag he) (partsOf_some hs hps) k1 k2 e
      have hb : P.built t (ps.map fun (i, x) => (i, a.eval x)).toList = some vs.toArray := by
        unfold Program.built
        simp only [hi, ht, hiz, p1, k3]
        rw [← g1]
        simp
      exact Step.pure hs (by simp [execOp, ho, run_build w t _ _ hb]) (.agg l' vs g2 g3) g5
    · cases e
  · rename_i n el z l ht hz hps
    obtain ⟨v, h1, hnt, _, i, hi, hiz⟩ := zeroT_some hz
    obtain ⟨us, k1, k2, k3⟩ := AV.cells_rel (cv_rel (φ := φ) h1) hnt
    split at e
    · rename_i sz hsz
      obtain ⟨ie, hie, hies⟩ := sizeT_some hsz
      obtain ⟨l', vs, g1, g2, g3, _, g5⟩ := fillK_some (place' := fun i => some (i * ie.size, ie.size)) (fun i o s ag he => by cases he; rw [hies]) (partsOf_some hs hps) k1 k2 e
      have hb : P.built t (ps.map fun (i, x) => (i, a.eval x)).toList = some vs.toArray := by
        unfold Program.built
        simp only [hi, ht, hiz, hie, k3]
        rw [← g1]
        simp
      exact Step.pure hs (by simp [execOp, ho, run_build w t _ _ hb]) (.agg l' vs g2 g3) g5
    · cases e
  · cases e
def repG {α : Type} (z : List α) : Nat → List α
  | 0 => []
  | n + 1 => z ++ repG z n
theorem repL_eq (z : List AV) : ∀ n, repL z n = repG z n
  | 0 => rfl
  | n + 1 => by rw [repL, repG, repL_eq z n]
theorem repG_length {α : Type} (z : List α) : ∀ n, (repG z n).length = n * z.length
  | 0 => by simp [repG]
  | n + 1 => by rw [repG, List.length_append, repG_length z n, Nat.add_mul]; omega
theorem repG_get {α : Type} (z : List α) : ∀ n i, i < n * z.length → (repG z n)[i]? = z[i % z.length]?
  | 0, i, h => by simp at h
  | n + 1, i, h => by
    rw [repG]
    by_cases hi : i < z.length
    · rw [List.getElem?_append_left hi, Nat.mod_eq_of_lt hi]
    · rw [Nat.add_mul, Nat.one_mul] at h
      rw [List.getElem?_append_right (by omega), repG_get z n _ (by omega), Nat.mod_eq_sub_mod (a := i) (by omega)]
theorem LRel.repG {z : List AV} {us : List Value} (hz : LRel φ z us) : ∀ n, LRel φ (Ev.repG z n) (Ev.repG us n)
  | 0 => .nil
  | n + 1 => hz.append (LRel.repG hz n)
theorem repG_mem {α : Type} {z : List α} {x : α} : ∀ {n}, x ∈ repG z n → x ∈ z
  | 0, h => by cases h
  | n + 1, h => by
    rcases List.mem_append.1 h with h | h
    · exact h
    · exact repG_mem h
theorem made_eq (us : List Value) (n : Nat) : (Array.range (n * us.length)).map (us.toArray[· % us.toArray.size]!) = (repG us n).toArray := by
  apply Array.ext'
  apply List.ext_getElem?
  intro i
  by_cases hi : i < n * us.length
  · have hpos : 0 < us.length := by
      rcases Nat.eq_zero_or_pos us.length with h0 | h0
      · rw [h0] at hi; simp at hi
      · exact h0
    have hm : i % us.length < us.length := Nat.mod_lt _ hpos
    simp [repG_get us n i hi, hi, hm]
  · have h1 : n * us.length ≤ i := by omega
    rw [List.getElem?_eq_none (by simpa using h1), List.getElem?_eq_none (by simpa [repG_length] using h1)]
end
end Go.Ev
end
section
/- Rows: made, cleared, grown. -/
namespace Go.Ev
section
variable {P : Program} {φ : Phi} {lam : Nat → Nat} {T : List (Option FV)} {L : List (Option LC)} {h : H} {w : World} {a : Act}
theorem run_buildSlice {t el : TypeId} {n sz : Nat} {v : Value} {us : List Value} {ps : Array (Nat × Value)} {cells : Array Value} (ht : P.underlying t = some (.slice el)) (hsz : sizeT P el = some sz)
    (hz : ∀ w, (zeroValue el).run P w = .ok v w) (hc : v.cells = us.toArray) (hul : us.length = sz) (hle : n * sz ≤ 16777216)
    (hf : Instr.fill (fun i => some (i * sz, sz)) (repG us n).toArray ps.toList = some cells) :
    (Instr.buildSlice t n ps).run P w = .ok (.slice (some ⟨w.heap.size, 0, none⟩) n n) (w.alloc (.cells cells el)) := by
  have hm := made_eq us n
  rw [hul] at hm
  have hno : ¬ (16777216 < n * sz) := by omega
  by_cases h0 : n * sz = 0
  · have hrep : Ev.repG us n = [] := List.eq_nil_of_length_eq_zero (by rw [repG_length, hul]; exact h0)
    rw [hrep] at hf
    have hr : ∀ f : Nat → Value, (Array.range 0).map f = #[] := fun f => by simp
    simp [Instr.buildSlice, run_underlying' ht, run_sizeT hsz, h0, newRow]
    rw [show Array.map (fun _ => (default : Value)) (Array.range 0) = #[] from hr _, hf]
    simp
  · rw [← hm] at hf
    simp only [Instr.buildSlice, Sem.run_bind, run_underlying' ht, run_sizeT hsz, Result.andThen_ok, hno, h0, hz, hc, newRow]
    simp [hz, hc, hno]
    simp at hf
    rw [hf]
    simp
theorem step_buildSlice {o : Oper} {K : FV → List (Option LC) → H → R} {res : AV × H} {t : TypeId} {n : Nat} {ps : Array (Nat × Operand)} (hs : SRel φ lam T L h a.tmps w)
    (ho : o.op = .buildSlice t n ps) (e : simple P T L h K (.buildSlice t n ps) = some res) : Step P φ lam T L h a w o K res := by
  simp only [simple] at e
  split at e
  · rename_i el l ht hps
    split at e
    · rename_i sz z hsz hz
      split at e
      · rename_i hg
        simp only [Bool.and_eq_true, Nat.ble_eq] at hg
        have hzl : z.cells.length = sz := Nat.eq_of_beq_eq_true hg.2
        obtain ⟨v, h1, hnt, hzr, i, hi, hiz⟩ := zeroT_some hz
        obtain ⟨us, k1, k2, k3⟩ := AV.cells_rel (cv_rel (φ := φ) h1) hnt
        have hul : us.length = sz := by rw [← k1.length]; exact hzl
        rw [repL_eq] at e
        obtain ⟨l', vs, g1, g2, g3, _, g5⟩ := fillK_some (place' := fun i => some (i * sz, sz)) (fun i o s ag he => by cases he; rfl) (partsOf_some hs hps) (k1.repG n) (fun v hv => k2 v (repG_mem hv)) e
        have hr := hs.ref.allocCells (e := el) g2 g3
        refine Step.made hs (v := .slice (some ⟨w.heap.size, 0, none⟩) n n) ?_ hr (.slice h.next 0 n (some n) w.heap.size 0 n (Phi.ext_same _ _ _ _) ⟨rfl, Nat.le_refl _⟩) g5
        simp [execOp, ho, run_buildSlice ht hsz hzr k3 hul hg.1 (ps := ps.map fun (i, x) => (i, a.eval x)) (by rw [Array.toList_map]; exact g1)]
      · cases e
    · cases e
  · cases e
theorem step_makeSlice {o : Oper} {K : FV → List (Option LC) → H → R} {res : AV × H} {t : TypeId} {x y : Operand} (hs : SRel φ lam T L h a.tmps w)
    (ho : o.op = .makeSlice t x y) (e : simple P T L h K (.makeSlice t x y) = some res) : Step P φ lam T L h a w o K res := by
  simp only [simple] at e
  split at e
  · rename_i el k l k' c ht hx hy
    have hxr := opd_rel hs hx
    have hyr := opd_rel hs hy
    generalize hxe : a.eval x = xv at hxr
    generalize hye : a.eval y = yv at hyr
    cases hxr
    cases hyr
    split at e
    · rename_i sz z hsz hz
      obtain ⟨hg, e1⟩ := guardB_some e
      clear e
      simp only [Bool.and_eq_true] at hg
      have hzl : z.cells.length = sz := Nat.eq_of_beq_eq_true hg.1
      obtain ⟨l', hl', e2⟩ := onNat_some e1
      clear e1
      obtain ⟨c', hc', e3⟩ := onNat_some e2
      clear e2
      obtain ⟨hg2, e⟩ := guardB_some e3
      clear e3
      subst hl' hc'
      simp only [Bool.and_eq_true, Nat.ble_eq] at hg2
      obtain ⟨v, h1, hnt, hzr, i, hi, hiz⟩ := zeroT_some hz
      obtain ⟨us, k1, k2, k3⟩ := AV.cells_rel (cv_rel (φ := φ) h1) hnt
      have hul : us.length = sz := by rw [← k1.length]; exact hzl
      have his : i.size = sz := by obtain ⟨i', hi', h⟩ := sizeT_some hsz; rw [hi] at hi'; cases hi'; exact h
      have hby : i.bytes ≤ 65536 := by have := hg.2; simp [bytesOk, hi] at this; exact this.1
      have hb : i.bytes * c' ≤ 65536 * 1073741824 := Nat.mul_le_mul hby hg2.2
      have hr := hs.ref.allocCells (e := el) (k1.repG c') (fun v hv => k2 v (repG_mem hv))
      rw [repL_eq] at e
      refine Step.made hs (v := .slice (some ⟨w.heap.size, 0, none⟩) l' c') ?_ hr (.slice h.next 0 l' (some c') w.heap.size 0 c' (Phi.ext_same _ _ _ _) ⟨rfl, hg2.1⟩) e
      have hm := run_make (P := P) w t el i v ht hi hiz k k' (l' : Int) (c' : Int) (by omega) (by omega) (by rw [← Int.natCast_mul]; omega) (by omega)
      have hmc : madeCells v.cells (c' * i.size) = (Ev.repG us c').toArray := by
        rw [k3, his, ← hul]; exact made_eq us c'
      simp only [Int.toNat_natCast, hmc] at hm
      simp [execOp, ho, hxe, hye, hm]
    · cases e
  · cases e
end
end Go.Ev
end
section
/- append. -/
namespace Go.Ev
theorem Own.of_kill {h : H} {b b' : Nat} (hb : Own (h.upd b .dead) b') : b' ≠ b ∧ Own h b' := by
  by_cases hbb : b' = b
  · subst hbb
    rcases hb with ⟨m, d, e⟩ | ⟨es, e⟩ <;> (rw [H.get_upd_same] at e; cases e)
  · refine ⟨hbb, ?_⟩
    rcases hb with ⟨m, d, e⟩ | ⟨es, e⟩
    · exact .inl ⟨m, d, by rwa [H.get_upd_ne _ _ hbb] at e⟩
    · exact .inr ⟨es, by rwa [H.get_upd_ne _ _ hbb] at e⟩
theorem Ro.of_kill {h : H} {b b' : Nat} (hb : Ro (h.upd b .dead) b') : b' ≠ b ∧ Ro h b' := by
  obtain ⟨n, c, e⟩ := hb
  by_cases hbb : b' = b
  · subst hbb; rw [H.get_upd_same] at e; cases e
  · exact ⟨hbb, n, c, by rwa [H.get_upd_ne _ _ hbb] at e⟩
/-- a block given up -/
theorem Ref.kill {φ : Phi} {h : H} {w : World} (hr : Ref φ h w) (b : Nat) (hb : b < h.next) : Ref φ (h.upd b .dead) w ∧ Fr φ h w w ∧ Grow φ h φ (h.upd b .dead) w := by
  refine ⟨⟨?_, ?_, ?_, hr.dom, ?_, hr.glob, ?_⟩, Fr.refl _ _ _, ⟨Phi.le_refl φ, ?_, Nat.le_refl _, fun _ _ e _ => e, fun _ h => h.of_kill.2⟩⟩
  · intro b' k e
    by_cases hbb : b' = b
    · subst hbb; rw [H.get_upd_same] at e; cases e; trivial
    · rw [H.get_upd_ne _ _ hbb] at e; exact hr.blk b' k e
  · intro b1 b2 r o o' h1 h2
    exact hr.inj b1 b2 r o o' h1.of_kill.2 h2.of_kill.2
  · intro b1 b2 r o o' h1 h2
    exact hr.sep b1 b2 r o o' h1.of_kill.2 h2.of_kill.2
  · intro b' hb'
    rw [H.next_upd] at hb'
    rw [H.get_upd_ne _ _ (by omega)]
    exact hr.new b' hb'
  · intro b' x hx
    obtain ⟨g1, g2⟩ := hr.room b' x hx
    refine ⟨g1, fun n c own r o e1 e2 => ?_⟩
    by_cases hbb : b' = b
    · subst hbb; rw [H.get_upd_same] at e1; cases e1
    · rw [H.get_upd_ne _ _ hbb] at e1; exact g2 n c own r o e1 e2
  · intro b' r o h1 e
    exact .inr (fun hoff => hoff b' o h1.of_kill.2 e)
/-- a new name for a place that no block holds -/
theorem Ref.alias {φ : Phi} {h : H} {w w' : World} {k : Blk} {r0 : Nat} {C : Option Nat} (hr : Ref φ h w) (hk : ∀ n c, k ≠ .cells n c false)
    (hoff : ∀ b k o, h.get b = some k → k ≠ .dead → φ b ≠ some (r0, o)) (hw : ∀ r, r < w.heap.size → r ≠ r0 → w'.heap[r]? = w.heap[r]?)
    (hB : BRel (φ.ext h.next r0 C) w' h.next k)
    (hC : ∀ x, C = some x → ∀ n c own, k = .cells n c own → ∃ k z ws e fz, c.get n = some (.int k (.ofNat z)) ∧ w'.heap[r0]? = some (.cells ws e fz) ∧ x * z ≤ ws.size) :
    Ref (φ.ext h.next r0 C) (h.add k) w' := by
  have hle := hr.le_ext r0 C
  have hro : ∀ {b}, Ro (h.add k) b → b ≠ h.next ∧ Ro h b := by
    intro b ⟨n, c, e⟩
    by_cases hb : b = h.next
    · subst hb
      rw [H.get_add_new] at e
      cases e
      exact absurd rfl (hk n c)
    · exact ⟨hb, n, c, by rwa [H.get_add_ne _ _ hb] at e⟩
  have hown : ∀ {b o}, Own h b → φ b ≠ some (r0, o) := by
    intro b o hb
    rcases hb with ⟨n, c, e⟩ | ⟨es, e⟩
    · exact hoff b _ o e (fun e => by cases e)
    · exact hoff b _ o e (fun e => by cases e)
  have hrr : ∀ {b o}, Ro h b → φ b ≠ some (r0, o) := by
    intro b o hb
    obtain ⟨n, c, e⟩ := hb
    exact hoff b _ o e (fun e => by cases e)
  refine ⟨?_, ?_, ?_, ?_, ?_, ?_, ?_⟩
  · intro b k' e
    by_cases hb : b = h.next
    · subst hb
      rw [H.get_add_new] at e
      cases e
      exact hB
    · rw [H.get_add_ne _ _ hb] at e
      by_cases hd : k' = .dead
      · subst hd; trivial
      · exact (hr.blk b k' e).keep hle (fun r o e1 hl => hw r hl (fun er => hoff b k' o e hd (by rw [← er]; exact e1)))
  · intro b b' r o o' hb hb' e e'
    by_cases h1 : b = h.next
    · by_cases h2 : b' = h.next
      · rw [h1, h2]
      · subst h1
        rw [Phi.ext_same] at e
        cases e
        rw [Phi.ext_ne _ _ _ h2] at e'
        exact absurd e' (hown (hb'.of_add h2))
    · rw [Phi.ext_ne _ _ _ h1] at e
      by_cases h2 : b' = h.next
      · subst h2
        rw [Phi.ext_same] at e'
        cases e'
        exact absurd e (hown (hb.of_add h1))
      · rw [Phi.ext_ne _ _ _ h2] at e'
        exact hr.inj b b' r o o' (hb.of_add h1) (hb'.of_add h2) e e'
  · intro b b' r o o' hb hb' e e'
    obtain ⟨h2, hb2⟩ := hro hb'
    rw [Phi.ext_ne _ _ _ h2] at e'
    by_cases h1 : b = h.next
    · subst h1
      rw [Phi.ext_same] at e
      cases e
      exact hrr hb2 e'
    · rw [Phi.ext_ne _ _ _ h1] at e
      exact hr.sep b b' r o o' (hb.of_add h1) hb2 e e'
  · intro b p e
    rw [H.next_add]
    by_cases hb : b = h.next
    · omega
    · rw [Phi.ext_ne _ _ _ hb] at e
      have := hr.dom b p e
      omega
  · intro b hb
    rw [H.next_add] at hb
    rw [H.get_add_ne _ _ (by omega)]
    exact hr.new b (by omega)
  · intro g hg
    exact hle.1 _ _ (hr.glob g hg)
  · intro b x hx
    rw [H.next_add]
    by_cases hb : b = h.next
    · subst hb
      rw [Phi.extg_same] at hx
      refine ⟨by omega, fun n c own r o e1 e2 => ?_⟩
      rw [H.get_add_new] at e1
      rw [Phi.ext_same] at e2
      cases e1
      cases e2
      exact hC x hx n c own rfl
    · rw [Phi.extg_ne _ _ _ hb] at hx
      obtain ⟨g1, g2⟩ := hr.room b x hx
      refine ⟨by omega, fun n c own r o e1 e2 => ?_⟩
      rw [H.get_add_ne _ _ hb] at e1
      rw [Phi.ext_ne _ _ _ hb] at e2
      obtain ⟨k', z, ws, e, fz, k1, k2, k3⟩ := g2 n c own r o e1 e2
      exact ⟨k', z, ws, e, fz, k1, by rw [hw r (Array.getElem?_eq_some_iff.1 k2).1 (fun er => hoff b _ o e1 (fun e => by cases e) (by rw [← er]; exact e2))]; exact k2, k3⟩
/-- what is appended -/
structure Src (P : Program) (φ : Phi) (w : World) (sz n : Nat) (X : Value) (new : List AV) : Prop where
  len : ∀ w', (Builtin.lenOf X).run P w' = .ok n w'
  cells : new.length = n * sz → ∃ us, LRel φ new us ∧ (∀ u ∈ us, flatV u = true) ∧ ∀ w', w'.heap = w.heap → (Builtin.firstCells sz n X).run P w' = .ok us.toArray w'
theorem first0 {P : Program} {X : Value} {w : World} {sz : Nat} (hl : (Builtin.lenOf X).run P w = .ok 0 w) : (Builtin.firstCells sz 0 X).run P w = .ok #[] w := by
  cases X with
  | slice b l c => cases b <;> simp [Builtin.firstCells, loadCells, loadCellsFrom]
  | string s => simp [Builtin.firstCells]
  | _ => simp [Builtin.lenOf, stuck] at hl
theorem u8s_rel {φ : Phi} : ∀ (l : List UInt8), LRel φ (u8s (l.map UInt8.toNat)) (l.map fun b => Value.int .u8 b.toNat)
  | [] => .nil
  | b :: l => .cons _ _ _ _ (.int _ _) (u8s_rel l)
theorem u8s_length : ∀ (l : List Nat), (u8s l).length = l.length
  | [] => rfl
  | _ :: l => by simp [u8s, u8s_length l]
section
variable {P : Program} {φ : Phi} {lam : Nat → Nat} {T : List (Option FV)} {L : List (Option LC)} {h : H} {w : World} {a : Act}
theorem src_str {sz : Nat} {b : ByteArray} {s : List Nat} (hb : b.data.toList.map UInt8.toNat = s) : Src P φ w sz s.length (.string b) (u8s s) := by
  subst hb
  have hsz : (b.data.toList.map UInt8.toNat).length = b.size := by simp
  rw [hsz]
  refine ⟨fun w' => by simp [Builtin.lenOf], fun _ => ⟨_, u8s_rel _, ?_, fun w' _ => ?_⟩⟩
  · intro u hu
    obtain ⟨x, _, rfl⟩ := List.mem_map.1 hu
    rfl
  · simp [Builtin.firstCells]
    apply Array.ext'
    simp
theorem src_slice {sz : Nat} {x : Option (Nat × Nat)} {n : Nat} {c : Option Nat} {X : Value} {f : List AV → R} {res : AV × H} (hr : Ref φ h w) (hv : VRel φ (.slice x n c) X) (e : srcK h sz x n f = some res) :
    ∃ new, Src P φ w sz n X new ∧ new.length = n * sz ∧ f new = some res := by
  have hlen : ∀ w', (Builtin.lenOf X).run P w' = .ok n w' := by
    intro w'
    cases hv <;> simp [Builtin.lenOf]
  cases n with
  | zero => exact ⟨[], ⟨hlen, fun _ => ⟨[], .nil, fun _ hu => (by cases hu), fun w' _ => first0 (hlen w')⟩⟩, by simp, e⟩
  | succ m =>
    obtain ⟨b, o, rfl, e⟩ := onSome_some e
    obtain ⟨l, vs, r, ro, g1, g2, g3, g4, g5, g6, g7⟩ := ldK_some (P := P) hr e
    cases hv with | slice _ _ _ _ r' ro' cc hφ hc =>
    rw [g1] at hφ
    cases hφ
    refine ⟨l, ⟨hlen, fun _ => ⟨vs, g2, g3, fun w' hw' => ?_⟩⟩, g4, g5⟩
    refine run_firstCells_some (P := P) w' sz (m + 1) _ _ _ vs (by rw [← g2.length]; exact g4) (fun j v hj => ?_)
    rw [addr_add]
    have := g7 j v hj
    simpa [World.cell?, hw'] using this
theorem srcOf_some {sz : Nat} {y : Operand} {f : Nat → List AV → R} {res : AV × H} (hs : SRel φ lam T L h a.tmps w) (e : simple.srcOf T h y f sz = some res) :
    ∃ n new, Src P φ w sz n (a.eval y) new ∧ f n new = some res := by
  unfold simple.srcOf at e
  split at e
  · rename_i s
    split at e
    · rename_i cs n hl
      obtain ⟨r, ws, ty, h1, h2, h3, h4, h5⟩ := hs.look hl
      refine ⟨n, cs, ⟨fun w' => by simp [h1, Builtin.lenOf], fun hn => ⟨ws, h3, h4, fun w' hw' => ?_⟩⟩, e⟩
      rw [h1]
      refine run_firstCells_some (P := P) w' sz n _ _ _ ws (by rw [← h3.length]; exact hn) (fun j v hj => ?_)
      rw [addr_add]
      simp [World.cell?, hw', h2, hj]
    · rename_i x n c hl
      obtain ⟨new, g1, _, g2⟩ := src_slice hs.ref (hs.look hl) e
      exact ⟨n, new, g1, g2⟩
    · rename_i s' hl
      have hv := hs.look hl
      generalize hz : a.eval (.tmp s) = z at hv
      cases hv with | str _ b hb => exact ⟨_, _, src_str hb, e⟩
    · cases e
  · split at e
    · rename_i s' hl
      have hv := opd_rel hs hl
      generalize hz : a.eval y = z at hv
      cases hv with | str _ b hb => exact ⟨_, _, src_str hb, e⟩
    · rename_i x n c hl
      obtain ⟨new, g1, _, g2⟩ := src_slice hs.ref (opd_rel hs hl) e
      exact ⟨n, new, g1, g2⟩
    · cases e
end
end Go.Ev
end
section
/- append, joined. -/
namespace Go.Ev
section
variable {P : Program} {φ : Phi} {lam : Nat → Nat} {T : List (Option FV)} {L : List (Option LC)} {h : H} {w : World} {a : Act}
theorem bytesOk_some {t : TypeId} {sz : Nat} (hb : bytesOk P t = true) (hsz : sizeT P t = some sz) : ∃ i z, P.info? t = some i ∧ i.zero = some z ∧ i.size = sz ∧ z.cells.size = sz ∧ i.bytes ≤ 65536 := by
  obtain ⟨i, hi, his⟩ := sizeT_some hsz
  unfold bytesOk at hb
  rw [hi] at hb
  simp only [Bool.and_eq_true, Nat.ble_eq] at hb
  obtain ⟨hb1, hb2⟩ := hb
  split at hb2
  · rename_i z hz
    exact ⟨i, z, hi, hz, his, by rw [Nat.eq_of_beq_eq_true hb2, his], hb1⟩
  · cases hb2
theorem rowT_run {u : TypeId} (hu : rowT P u = true) : (∃ e, P.underlying u = some (.slice e)) ∨ P.underlying u = some .string := by
  unfold rowT at hu
  split at hu
  · rename_i e h; exact .inl ⟨_, h⟩
  · rename_i h; exact .inr h
  · cases hu
/-- there is room -/
theorem run_append_fit {t u ty el : TypeId} {ts : Array TypeId} {sz n sLen sCap : Nat} {base : Option Addr} {X : Value} {us : Array Value} {w' : World}
    (h0 : ts[0]? = some t) (h1 : ts[1]? = some u) (ht : P.underlying t = some (.slice el)) (hu : rowT P u = true) (hsz : sizeT P el = some sz)
    (hl : (Builtin.lenOf X).run P w = .ok n w) (hf : (Builtin.firstCells sz n X).run P w = .ok us w) (hfit : sLen + n ≤ sCap)
    (hst : (match base with | some b => storeCells (b.add (sLen * sz)) us.toList | none => pure ()).run P w = .ok () w') :
    (Builtin.append_ ts ty #[.slice base sLen sCap, X]).run P w = .ok (.slice base (sLen + n) sCap) w' := by
  cases base with
  | none =>
    simp at hst
    subst hst
    rcases rowT_run hu with ⟨e, hd⟩ | hd <;> simp [Builtin.append_, h0, h1, run_underlying' ht, run_underlying' hd, run_sizeT hsz, hl, hf, hfit]
  | some b =>
    simp only at hst
    rcases rowT_run hu with ⟨e, hd⟩ | hd <;> simp [Builtin.append_, h0, h1, run_underlying' ht, run_underlying' hd, run_sizeT hsz, hl, hf, hfit, hst]
/-- there is none -/
theorem run_append_more {t u ty el : TypeId} {ts : Array TypeId} {sz n sLen sCap : Nat} {base : Option Addr} {X z : Value} {i : TypeInfo} {us os : Array Value}
    (h0 : ts[0]? = some t) (h1 : ts[1]? = some u) (ht : P.underlying t = some (.slice el)) (hu : rowT P u = true) (hi : P.info? el = some i) (his : i.size = sz) (hz : i.zero = some z) (hby : i.bytes ≤ 65536)
    (hl : (Builtin.lenOf X).run P w = .ok n w) (hf : (Builtin.firstCells sz n X).run P w.drew = .ok us w.drew) (ho : (Builtin.firstCells sz sLen (.slice base sLen sCap)).run P w.drew = .ok os w.drew)
    (hfit : sCap < sLen + n) (b1 : sLen ≤ 1073741824) (b2 : n ≤ 1073741824) :
    (Builtin.append_ ts ty #[.slice base sLen sCap, X]).run P w =
      .ok (.slice (some ⟨w.heap.size, 0, none⟩) (sLen + n) (grownCap w (sLen + n) sCap el)) (w.drew.alloc (.cells (os ++ us ++ Builtin.zeroCells z.cells (grownCap w (sLen + n) sCap el - (sLen + n))) el)) := by
  have hn : ¬ (sLen + n ≤ sCap) := by omega
  have h63' : ¬ (9223372036854775807 < ((sLen : Int) + (n : Int))) := by omega
  have hcap := nextslicecap_le hfit
  have hmul : Builtin.nextslicecap (sLen + n) sCap * i.bytes ≤ 4294967296 * 65536 := Nat.mul_le_mul (by omega) hby
  have h48' : ¬ (281474976710656 < Builtin.nextslicecap (sLen + n) sCap * i.bytes) := by omega
  subst his
  rcases rowT_run hu with ⟨e, hd⟩ | hd <;> simp [Builtin.append_, h0, h1, run_underlying' ht, run_underlying' hd, sizeOf, typeInfo, zeroValue, hi, hz, hl, hf, ho, hn, h63', h48', Question.forced, newRow, grownCap]
end
end Go.Ev
end
section
/- append, as the evaluator has it. -/
namespace Go.Ev
theorem Ref.drew {φ : Phi} {h : H} {w : World} (hr : Ref φ h w) : Ref φ h w.drew :=
  ⟨fun b k e => by have := hr.blk b k e; cases k <;> exact this, hr.inj, hr.sep, hr.dom, hr.new, hr.glob, hr.room⟩
section
variable {P : Program} {φ : Phi} {h : H} {w : World}
/-- a new row of unknown room -/
theorem grown_new {el : TypeId} {sz len n C : Nat} {os us zs : List Value} {c : T5 AV} (hr : Ref φ h w)
    (hc : ∀ i x, i < (len + n) * sz → c.get i = some x → ∃ v, (os ++ us)[i]? = some v ∧ VRel φ x v ∧ flatV v = true)
    (hl : (os ++ us).length = (len + n) * sz) (hz : zs.length = (C - (len + n)) * sz) (hC : len + n ≤ C) :
    ∃ φ', Ref φ' (h.add (.cells ((len + n) * sz) (mark c ((len + n) * sz) sz) true)) (w.drew.alloc (.cells (os.toArray ++ us.toArray ++ zs.toArray) el)) ∧
      Fr φ h w (w.drew.alloc (.cells (os.toArray ++ us.toArray ++ zs.toArray) el)) ∧ Grow φ h φ' (h.add (.cells ((len + n) * sz) (mark c ((len + n) * sz) sz) true)) w ∧
      VRel φ' (.slice (some (h.next, 0)) (len + n) none) (.slice (some ⟨w.heap.size, 0, none⟩) (len + n) C) := by
  have hd := hr.drew
  have key := hd.alloc (k := .cells ((len + n) * sz) (mark c ((len + n) * sz) sz) true) (ob := .cells (os.toArray ++ us.toArray ++ zs.toArray) el) (C := some C) (fun n c e => by cases e)
    ⟨w.heap.size, 0, os.toArray ++ us.toArray ++ zs.toArray, el, (0, 0), Phi.ext_same _ _ _ _, heap_alloc_new w.drew _, by simp at hl ⊢; omega, fun i x hi hx => by
      rw [mark, T5.get_set_ne _ _ (Nat.ne_of_lt hi)] at hx
      obtain ⟨v, h1, h2, h3⟩ := hc i x hi hx
      refine ⟨v, ?_, h2.mono (hr.le_ext _ _), h3⟩
      have : (os.toArray ++ us.toArray ++ zs.toArray) = ((os ++ us) ++ zs).toArray := by simp
      rw [this, Nat.zero_add, List.getElem?_toArray, List.getElem?_append_left (by omega)]
      exact h1, fun _ => ⟨rfl, rfl⟩⟩
    (fun x hx n' c' own e => by
      cases hx
      cases e
      refine ⟨.u8, sz, _, _, _, T5.get_set_same _ _ _, rfl, ?_⟩
      have h1 : (os.toArray ++ us.toArray ++ zs.toArray).size = (len + n) * sz + (C - (len + n)) * sz := by
        rw [← hl, ← hz]; simp [Nat.add_assoc]
      rw [h1, ← Nat.add_mul]
      exact Nat.le_of_eq (by congr 1; omega))
  obtain ⟨k1, k2, k3⟩ := key
  refine ⟨_, k1, ⟨k2.size, k2.keep, k2.tape, k2.os, k2.output⟩, ⟨k3.le, k3.own, k3.next, k3.old, k3.ro⟩, ?_⟩
  exact .slice h.next 0 (len + n) none w.heap.size 0 C (Phi.ext_same _ _ _ _) ⟨hC, C, Phi.extg_same _ _ _ _, Nat.le_refl _⟩
/-- what append comes to -/
def Appended (P : Program) (φ : Phi) (h : H) (w : World) (ts : Array TypeId) (ty : TypeId) (S X : Value) (f : Option (Nat × Nat) → Nat → Option Nat → H → R) (res : AV × H) : Prop :=
  ∃ φ' h' w' v x n c, (Builtin.append_ ts ty #[S, X]).run P w = .ok v w' ∧ Ref φ' h' w' ∧ Fr φ h w w' ∧ Grow φ h φ' h' w ∧ VRel φ' (.slice x n c) v ∧ f x n c h' = some res
theorem app_zero {t u ty el : TypeId} {ts : Array TypeId} {sz len : Nat} {x : Option (Nat × Nat)} {cap : Option Nat} {S X : Value} {new : List AV} {f : Option (Nat × Nat) → Nat → Option Nat → H → R} {res : AV × H}
    (h0 : ts[0]? = some t) (h1 : ts[1]? = some u) (ht : P.underlying t = some (.slice el)) (hu : rowT P u = true) (hsz : sizeT P el = some sz)
    (hr : Ref φ h w) (hv : VRel φ (.slice x len cap) S) (hs : Src P φ w sz 0 X new) (e : f x len cap h = some res) : Appended P φ h w ts ty S X f res := by
  have hbase : ∃ base cc, S = .slice base len cc ∧ len ≤ cc := by
    cases hv with
    | slice0 => exact ⟨none, 0, rfl, Nat.le_refl _⟩
    | slice b o _ _ r ro cc hφ hc =>
      refine ⟨_, cc, rfl, ?_⟩
      cases cap with
      | some c => obtain ⟨rfl, h⟩ := hc; exact h
      | none => exact hc.1
  obtain ⟨base, cc, rfl, hle⟩ := hbase
  refine ⟨φ, h, w, .slice base (len + 0) cc, x, len, cap, run_append_fit (us := #[]) h0 h1 ht hu hsz (hs.len w) (first0 (hs.len w)) (by omega) ?_, hr, Fr.refl _ _ _, Grow.refl _ _ _, hv, e⟩
  cases base <;> simp [storeCells]
theorem zeroCells_list (z : Array Value) (n sz : Nat) (hz : z.size = sz) : (Builtin.zeroCells z n).toList.length = n * sz := by
  subst hz; simp [Builtin.zeroCells]
/-- a row of known room -/
theorem app_known {t u ty el : TypeId} {ts : Array TypeId} {sz len m cp : Nat} {x : Option (Nat × Nat)} {S X : Value} {new : List AV} {f : Option (Nat × Nat) → Nat → Option Nat → H → R} {res : AV × H}
    (h0 : ts[0]? = some t) (h1 : ts[1]? = some u) (ht : P.underlying t = some (.slice el)) (hu : rowT P u = true) (hsz : sizeT P el = some sz) (hb : bytesOk P el = true)
    (hr : Ref φ h w) (hv : VRel φ (.slice x len (some cp)) S) (hs : Src P φ w sz (m + 1) X new) (g1 : len ≤ 1073741824) (g2 : m + 1 ≤ 1073741824) (g3 : new.length = (m + 1) * sz)
    (e : ifB (Nat.ble (len + (m + 1)) cp)
        (onSome x (fun b o => stK h b (o + len * sz) new (fun h => f x (len + (m + 1)) (some cp) h)))
        (srcK h sz x len (fun old => newZ h sz (old ++ new) (fun b h => f (some (b, 0)) (len + (m + 1)) none h))) = some res) : Appended P φ h w ts ty S X f res := by
  obtain ⟨us, u1, u2, u3⟩ := hs.cells g3
  obtain ⟨i, z, hi, hz, his, hzs, hby⟩ := bytesOk_some hb hsz
  cases hfit : Nat.ble (len + (m + 1)) cp with
  | true =>
    rw [hfit] at e
    rw [Nat.ble_eq] at hfit
    obtain ⟨b, o, rfl, e⟩ := onSome_some e
    obtain ⟨n, c, k1, k2, k3⟩ := stK_some e
    obtain ⟨r, w', j1, j2, j3, j4, j5⟩ := hr.write (P := P) k1 u1 u2 k2
    cases hv with | slice _ _ _ _ r' ro cc hφ hc =>
    rw [j1] at hφ
    cases hφ
    obtain ⟨rfl, hle⟩ := hc
    refine ⟨φ, _, w', _, _, _, _, run_append_fit h0 h1 ht hu hsz (hs.len w) (u3 w rfl) hfit ?_, j3, j4, j5, .slice b o _ (some cc) r 0 cc j1 ⟨rfl, hfit⟩, k3⟩
    simp only [addr_add]
    rw [Nat.zero_add]
    exact j2
  | false =>
    rw [hfit] at e
    have hnf : cp < len + (m + 1) := by
      rcases Nat.lt_or_ge cp (len + (m + 1)) with h | h
      · exact h
      · rw [Nat.ble_eq_true_of_le h] at hfit; cases hfit
    simp only [ifB] at e
    obtain ⟨old, s1, s2, s3⟩ := src_slice (P := P) (sz := sz) hr hv e
    obtain ⟨os, o1, o2, o3⟩ := s1.cells s2
    have hS : ∃ base, S = .slice base len cp := by
      cases hv with
      | slice0 => exact ⟨none, rfl⟩
      | slice b o _ _ r ro cc hφ hc => exact ⟨_, by rw [hc.1]⟩
    obtain ⟨base, rfl⟩ := hS
    have hrun := run_append_more (ty := ty) h0 h1 ht hu hi his hz hby (hs.len w) (u3 w.drew rfl) (o3 w.drew rfl) hnf g1 g2
    have hall := o1.append u1
    have hlen : (os ++ us).length = (len + (m + 1)) * sz := by rw [← hall.length, List.length_append, s2, g3, ← Nat.add_mul]
    have hnl : (old ++ new).length = (len + (m + 1)) * sz := by rw [hall.length, hlen]
    obtain ⟨φ', q1, q2, q3, q4⟩ := grown_new (el := el) (sz := sz) (len := len) (n := m + 1) (C := grownCap w (len + (m + 1)) cp el) (os := os) (us := us)
      (zs := (Builtin.zeroCells z.cells (grownCap w (len + (m + 1)) cp el - (len + (m + 1)))).toList) (c := rowFrom .nil 0 (old ++ new)) hr
      (fun i x hi hx => by
        rw [rowFrom_get, if_pos ⟨Nat.zero_le _, by omega⟩] at hx
        obtain ⟨v, v1, v2⟩ := hall.get i x (by simpa using hx)
        refine ⟨v, v1, v2, ?_⟩
        rcases List.mem_append.1 (List.mem_of_getElem? v1) with hm | hm
        · exact o2 v hm
        · exact u2 v hm) hlen (zeroCells_list _ _ _ hzs) (grownCap_ge _ _ _ _)
    simp only [Array.toArray_toList] at q1 q2
    unfold newZ at s3
    rw [hnl] at s3
    exact ⟨φ', _, _, _, _, _, _, hrun, q1, q2, q3, q4, s3⟩
end
end Go.Ev
end
section
/- append on rows of unknown room; the step. -/
namespace Go.Ev
section
variable {P : Program} {φ : Phi} {h : H} {w : World}
theorem app_unknown {t u ty el : TypeId} {ts : Array TypeId} {sz len m : Nat} {x : Option (Nat × Nat)} {S X : Value} {new : List AV} {f : Option (Nat × Nat) → Nat → Option Nat → H → R} {res : AV × H}
    (h0 : ts[0]? = some t) (h1 : ts[1]? = some u) (ht : P.underlying t = some (.slice el)) (hu : rowT P u = true) (hsz : sizeT P el = some sz) (hb : bytesOk P el = true)
    (hr : Ref φ h w) (hv : VRel φ (.slice x len none) S) (hs : Src P φ w sz (m + 1) X new) (g1 : len ≤ 1073741824) (g2 : m + 1 ≤ 1073741824) (g3 : new.length = (m + 1) * sz)
    (e : onSome x (fun b o => guardB (Nat.beq o 0) (match h.get b with
      | some (.cells k c true) => guardB (Nat.ble (len * sz) k && marked c k sz)
          (f (some (h.next, 0)) (len + (m + 1)) none ((h.upd b .dead).add (.cells ((len + (m + 1)) * sz) (mark (rowFrom c (len * sz) new) ((len + (m + 1)) * sz) sz) true)))
      | _ => none)) = some res) : Appended P φ h w ts ty S X f res := by
  obtain ⟨us, u1, u2, u3⟩ := hs.cells g3
  obtain ⟨i, z, hi, hz, his, hzs, hby⟩ := bytesOk_some hb hsz
  obtain ⟨b, o, rfl, e1⟩ := onSome_some e
  clear e
  obtain ⟨ho, e2⟩ := guardB_some e1
  clear e1
  have ho' : o = 0 := Nat.eq_of_beq_eq_true ho
  subst ho'
  split at e2
  · rename_i k c hg
    obtain ⟨hgu, e⟩ := guardB_some e2
    clear e2
    simp only [Bool.and_eq_true, Nat.ble_eq] at hgu
    obtain ⟨hk, hm⟩ := hgu
    cases hv with | slice _ _ _ _ r ro cc hφ hc =>
    obtain ⟨hlc, C, hC, hCle⟩ := hc
    obtain ⟨r', ro', ws, tyw, fz, b1, b2, b3, b4, b5⟩ := hr.blk b _ hg
    rw [hφ] at b1
    cases b1
    obtain ⟨hro0, rfl⟩ := b5 rfl
    subst hro0
    obtain ⟨hbn, hroom⟩ := hr.room b C hC
    obtain ⟨kk, z', ws', ty', fz', m1, m2, m3⟩ := hroom k c true r 0 hg hφ
    rw [b2] at m2
    cases m2
    have hzz : z' = sz := by
      unfold marked at hm
      rw [m1] at hm
      exact Nat.eq_of_beq_eq_true hm
    subst hzz
    have hown : Own h b := .inl ⟨k, c, hg⟩
    obtain ⟨d1, d2, d3⟩ := hr.kill b hbn
    have ul : us.length = (m + 1) * z' := by rw [← u1.length]; exact g3
    have hcell : ∀ i x, i < len * z' → c.get i = some x → ∃ v, ws[i]? = some v ∧ VRel φ x v ∧ flatV v = true := by
      intro i x hi hx
      have := b4 i x (by omega) hx
      simpa using this
    by_cases hfit : len + (m + 1) ≤ cc
    · have hsize : (len + (m + 1)) * z' ≤ ws.size := Nat.le_trans (Nat.mul_le_mul_right _ (Nat.le_trans hfit hCle)) m3
      have hsum : len * z' + us.length = (len + (m + 1)) * z' := by rw [ul, ← Nat.add_mul]
      have hst := run_storeCells_at P r (len * z') tyw us 0 ws w b2 (by omega) (fun v hv => by
        have := u2 v hv
        cases v <;> simp_all [flatV, Value.oneCell'])
      have hsplice : ws.toList.take (len * z' + 0) ++ us ++ ws.toList.drop (len * z' + 0 + us.length) = setG ws.toList (len * z') us := splice_eq ws.toList us (len * z') (by simp; omega)
      rw [hsplice] at hst
      have hw' := setRow_heap w r ws (setG ws.toList (len * z') us).toArray tyw (0, 0) b2
      have hal := d1.alias (w' := w.setRow r (setG ws.toList (len * z') us).toArray) (k := .cells ((len + (m + 1)) * z') (mark (rowFrom c (len * z') new) ((len + (m + 1)) * z') z') true) (r0 := r) (C := some C)
        (fun n c e => by cases e)
        (fun b' k' o' e1 hk' e2 => by
          by_cases hbb : b' = b
          · subst hbb; rw [H.get_upd_same] at e1; cases e1; exact hk' rfl
          · rw [H.get_upd_ne _ _ hbb] at e1
            cases k' with
            | cells n' c' own' =>
              cases own' with
              | true => exact hbb (hr.inj b' b r o' 0 (.inl ⟨n', c', e1⟩) hown e2 hφ)
              | false => exact hr.sep b b' r 0 o' hown ⟨n', c', e1⟩ hφ e2
            | map es => exact hbb (hr.inj b' b r o' 0 (.inr ⟨es, e1⟩) hown e2 hφ)
            | dead => exact hk' rfl)
        (fun r' _ hne => setRow_other w r r' _ hne)
        ⟨r, 0, _, tyw, (0, 0), Phi.ext_same _ _ _ _, hw', by simp [setG_length]; exact hsize, fun i x hi hx => by
          rw [mark, T5.get_set_ne _ _ (Nat.ne_of_lt hi), rowFrom_get] at hx
          rw [Nat.zero_add, List.getElem?_toArray, setG_get]
          by_cases hin : len * z' ≤ i ∧ i < len * z' + new.length
          · rw [if_pos hin] at hx
            rw [if_pos ⟨hin.1, by rw [u1.length] at hin; exact hin.2, by simp; omega⟩]
            obtain ⟨v, v1, v2⟩ := u1.get _ x hx
            exact ⟨v, v1, v2.mono (d1.le_ext r (some C)), u2 v (List.mem_of_getElem? v1)⟩
          · rw [if_neg hin] at hx
            rw [u1.length] at hin
            rw [if_neg (fun hh => hin ⟨hh.1, hh.2.1⟩)]
            obtain ⟨v, v1, v2, v3⟩ := hcell i x (by omega) hx
            exact ⟨v, by simpa using v1, v2.mono (d1.le_ext r (some C)), v3⟩, fun _ => ⟨rfl, rfl⟩⟩
        (fun x hx n' c' own' e' => by
          cases hx
          cases e'
          exact ⟨.u8, z', _, _, _, T5.get_set_same _ _ _, hw', by simp [setG_length]; exact m3⟩)
      refine ⟨_, _, _, _, _, _, _, run_append_fit h0 h1 ht hu hsz (hs.len w) (u3 w rfl) hfit ?_, hal, ⟨by simp, fun r' _ hoff => setRow_other w r r' _ (fun er => hoff b 0 hown (by rw [er]; exact hφ)), rfl, rfl, rfl⟩,
        ⟨d1.le_ext r (some C), fun b' r' o' hb' e' => ?_, by rw [H.next_add, H.next_upd]; omega, fun b' p e' hl => ?_, fun b' hb' => ?_⟩,
        .slice _ 0 _ none r 0 cc (Phi.ext_same _ _ _ _) ⟨hfit, C, Phi.extg_same _ _ _ _, hCle⟩, e⟩
      · simp only [addr_add, Nat.zero_add]
        exact hst
      · by_cases hbb : b' = (h.upd b .dead).next
        · subst hbb
          rw [Phi.ext_same] at e'
          cases e'
          exact .inr (fun hoff => hoff b 0 hown hφ)
        · rw [Phi.ext_ne _ _ _ hbb] at e'
          exact .inr (fun hoff => hoff b' o' (hb'.of_add hbb).of_kill.2 e')
      · have hne : b' ≠ (h.upd b .dead).next := Nat.ne_of_lt hl
        rwa [Phi.ext_ne _ _ _ hne] at e'
      · obtain ⟨n', c', e'⟩ := hb'
        by_cases hbb : b' = (h.upd b .dead).next
        · subst hbb; rw [H.get_add_new] at e'; cases e'
        · rw [H.get_add_ne _ _ hbb] at e'
          exact (Ro.of_kill ⟨n', c', e'⟩).2
    · have hkw : len * z' ≤ ws.toList.length := by simp; omega
      have htl : (ws.toList.take (len * z')).length = len * z' := by rw [List.length_take]; omega
      have hold := run_firstCells_some (P := P) w.drew z' len ⟨r, 0 + 0, none⟩ len cc (ws.toList.take (len * z')) htl (fun j v hj => by
        rw [addr_add]
        rw [List.getElem?_take] at hj
        split at hj
        · have : w.drew.cell? ⟨r, 0 + 0 + j, none⟩ = ws[j]? := by
            have e0 : w.drew.heap[r]? = some (.cells ws tyw (0, 0)) := b2
            simp [World.cell?, e0]
          rw [this]; simpa using hj
        · cases hj)
      have hrun := run_append_more (ty := ty) h0 h1 ht hu hi his hz hby (hs.len w) (u3 w.drew rfl) hold (by omega) g1 g2
      have hlen : (ws.toList.take (len * z') ++ us).length = (len + (m + 1)) * z' := by rw [List.length_append, htl, ul, ← Nat.add_mul]
      obtain ⟨φ', q1, q2, q3, q4⟩ := grown_new (el := el) (sz := z') (len := len) (n := m + 1) (C := grownCap w (len + (m + 1)) cc el) (os := ws.toList.take (len * z')) (us := us)
        (zs := (Builtin.zeroCells z.cells (grownCap w (len + (m + 1)) cc el - (len + (m + 1)))).toList) (c := rowFrom c (len * z') new) d1
        (fun i x hi hx => by
          rw [rowFrom_get] at hx
          by_cases hin : len * z' ≤ i ∧ i < len * z' + new.length
          · rw [if_pos hin] at hx
            obtain ⟨v, v1, v2⟩ := u1.get _ x hx
            refine ⟨v, ?_, v2, u2 v (List.mem_of_getElem? v1)⟩
            rw [List.getElem?_append_right (by omega), htl]
            exact v1
          · rw [if_neg hin] at hx
            have hil : i < len * z' := by
              rw [u1.length, ul] at hin
              rw [Nat.add_mul] at hi
              omega
            obtain ⟨v, v1, v2, v3⟩ := hcell i x hil hx
            refine ⟨v, ?_, v2, v3⟩
            rw [List.getElem?_append_left (by omega), List.getElem?_take, if_pos hil]
            simpa using v1) hlen (zeroCells_list _ _ _ hzs) (grownCap_ge _ _ _ _)
      simp only [Array.toArray_toList] at q1 q2
      exact ⟨φ', _, _, _, _, _, _, hrun, q1, d2.trans d3 q2, d3.trans d2 q3, q4, e⟩
  · cases e2
end
end Go.Ev
end
section
/- The step of append. -/
namespace Go.Ev
section
variable {P : Program} {φ : Phi} {lam : Nat → Nat} {T : List (Option FV)} {L : List (Option LC)} {h : H} {w : World} {a : Act}
theorem appL_some {t u ty el : TypeId} {ts : Array TypeId} {sz len n : Nat} {x : Option (Nat × Nat)} {cap : Option Nat} {S X : Value} {new : List AV} {f : Option (Nat × Nat) → Nat → Option Nat → H → R} {res : AV × H}
    (h0 : ts[0]? = some t) (h1 : ts[1]? = some u) (ht : P.underlying t = some (.slice el)) (hu : rowT P u = true) (hsz : sizeT P el = some sz) (hb : bytesOk P el = true)
    (hr : Ref φ h w) (hv : VRel φ (.slice x len cap) S) (hs : Src P φ w sz n X new) (e : appL h sz x len cap n new f = some res) : Appended P φ h w ts ty S X f res := by
  cases n with
  | zero => exact app_zero h0 h1 ht hu hsz hr hv hs e
  | succ m =>
    unfold appL at e
    obtain ⟨hg, e⟩ := guardB_some e
    simp only [Bool.and_eq_true, Nat.ble_eq] at hg
    have g3 : new.length = (m + 1) * sz := Nat.eq_of_beq_eq_true hg.2
    cases cap with
    | some cp => exact app_known h0 h1 ht hu hsz hb hr hv hs hg.1.1 hg.1.2 g3 e
    | none => exact app_unknown h0 h1 ht hu hsz hb hr hv hs hg.1.1 hg.1.2 g3 e
theorem run_append_op {o : Oper} {as : Array Operand} {ts : Array TypeId} {x y : Operand} {v : Value} {w' : World} (ho : o.op = .call { callee := .builtin .append, args := as, argTypes := ts })
    (ha : as.toList = [x, y]) (hrun : (Builtin.append_ ts o.type #[a.eval x, a.eval y]).run P w = .ok v w') : (execOp a.eval o).run P w = .ok (.value v) w' := by
  have : as = #[x, y] := Array.ext' (by rw [ha])
  subst this
  simp [execOp, ho, resolve, invoke, builtin, hrun]
theorem step_append {o : Oper} {K : FV → List (Option LC) → H → R} {res : AV × H} {as : Array Operand} {ts : Array TypeId} (hs : SRel φ lam T L h a.tmps w)
    (ho : o.op = .call { callee := .builtin .append, args := as, argTypes := ts }) (e : simple P T L h K (.call { callee := .builtin .append, args := as, argTypes := ts }) = some res) : Step P φ lam T L h a w o K res := by
  simp only [simple] at e
  split at e
  · rename_i x y t u rest has hts
    split at e
    · rename_i el ht
      split at e
      · rename_i sz xa len cap hsz hx
        obtain ⟨hg, e⟩ := guardB_some e
        simp only [Bool.and_eq_true] at hg
        obtain ⟨n, new, hsrc, e⟩ := srcOf_some hs e
        have h0 : ts[0]? = some t := by rw [← Array.getElem?_toList, hts]; rfl
        have h1 : ts[1]? = some u := by rw [← Array.getElem?_toList, hts]; rfl
        obtain ⟨φ', h', w', v, x', n', c', hrun, k1, k2, k3, k4, k5⟩ := appL_some (ty := o.type) h0 h1 ht hg.2 hsz hg.1 hs.ref (opd_rel hs hx) hsrc e
        exact Step.made hs (run_append_op ho has hrun) ⟨k1, k2, k3⟩ k4 k5
      · cases e
    · cases e
  · cases e
end
end Go.Ev
end
section
/- Rows cleared; lengths. -/
namespace Go.Ev
section
variable {P : Program} {φ : Phi} {lam : Nat → Nat} {T : List (Option FV)} {L : List (Option LC)} {h : H} {w : World} {a : Act}
theorem step_clear {o : Oper} {K : FV → List (Option LC) → H → R} {res : AV × H} {as : Array Operand} {ts : Array TypeId} (hs : SRel φ lam T L h a.tmps w)
    (ho : o.op = .call { callee := .builtin .clear, args := as, argTypes := ts }) (e : simple P T L h K (.call { callee := .builtin .clear, args := as, argTypes := ts }) = some res) : Step P φ lam T L h a w o K res := by
  simp only [simple] at e
  split at e
  · rename_i x n c t rest has hts
    have hl := opds_rel hs has
    have h0 : ts[0]? = some t := by rw [← Array.getElem?_toList, hts]; rfl
    generalize hmap : as.toList.map a.eval = vl at hl
    cases hl with | cons _ v _ vs hv hl =>
    cases hl
    have harg : as.map a.eval = #[v] := Array.ext' (by rw [Array.toList_map, hmap])
    split at e
    · rename_i el ht
      split at e
      · rename_i sz z hsz hz
        obtain ⟨zv, q1, hnt, hzr, i, hi, hiz⟩ := zeroT_some hz
        obtain ⟨us, k1, k2, k3⟩ := AV.cells_rel (cv_rel (φ := φ) q1) hnt
        have hgo : ∀ {w'}, (Builtin.clear_ ts o.type #[v]).run P w = .ok (.tuple #[]) w' → (execOp a.eval o).run P w = .ok (.value (.tuple #[])) w' := by
          intro w' hr
          simp [execOp, ho, resolve, invoke, builtin, harg, hr]
        unfold clrK at e
        split at e
        · refine Step.pure hs (v := .tuple #[]) (hgo ?_) (.tuple [] [] .nil) e
          cases hv <;> simp [Builtin.clear_, h0, run_underlying' ht]
        · rename_i m
          obtain ⟨b, off, rfl, e⟩ := onSome_some e
          obtain ⟨n', c', g1, g2, g3⟩ := stK_some e
          rw [repL_eq] at g2 g3
          obtain ⟨r, w', j1, j2, j3, j4, j5⟩ := hs.ref.write (P := P) g1 (k1.repG (m + 1)) (fun v hv => k2 v (repG_mem hv)) g2
          cases hv with | slice _ _ _ _ r' ro cc hφ hc =>
          rw [j1] at hφ
          cases hφ
          have hm := made_eq us (m + 1)
          refine Step.made hs (v := .tuple #[]) (hgo ?_) ⟨j3, j4, j5⟩ (.tuple [] [] .nil) g3
          have hzc : Builtin.zeroCells zv.cells (m + 1) = (Ev.repG us (m + 1)).toArray := by
            rw [k3]; exact hm
          rw [Nat.zero_add]
          simp [Builtin.clear_, h0, run_underlying' ht, hzr, hzc, j2]
      · cases e
    · cases e
  · cases e
theorem step_makeMap {o : Oper} {K : FV → List (Option LC) → H → R} {res : AV × H} {t : TypeId} (hs : SRel φ lam T L h a.tmps w)
    (ho : o.op = .makeMap t none) (e : simple P T L h K (.makeMap t none) = some res) : Step P φ lam T L h a w o K res := by
  simp only [simple, newM] at e
  have hr := hs.ref.alloc (k := .map []) (ob := .map #[] 0) (C := none) (fun n c e => by cases e)
    ⟨w.heap.size, #[], 0, Phi.ext_same _ _ _ _, heap_alloc_new _ _, [], .nil, rfl, .nil⟩ (fun x hx => by cases hx)
  refine Step.made hs (v := .map (some w.heap.size)) ?_ hr (.map h.next w.heap.size (Phi.ext_same _ _ _ _)) e
  simp [execOp, ho, Instr.makeMap]
theorem run_holds {d : TypeDesc} {t xt : TypeId} {v : Value} {ok : Bool} (hd : P.underlying t = some d) (hdd : ∀ is, d ≠ .interface is) :
    (Instr.typeAssert (.iface t v) xt t ok).run P w = .ok (if ok = true then .tuple #[v, .bool true] else v) w := by
  cases d <;> first | exact absurd rfl (hdd _) | simp [Instr.typeAssert, run_underlying' hd]
theorem run_fails {d : TypeDesc} {t t' xt : TypeId} {v z : Value} (hd : P.underlying t = some d) (hdd : ∀ is, d ≠ .interface is) (hz : ∀ w, (zeroValue t).run P w = .ok z w) (hne : t' ≠ t) :
    (Instr.typeAssert (.iface t' v) xt t true).run P w = .ok (.tuple #[z, .bool false]) w := by
  cases d <;> first | exact absurd rfl (hdd _) | simp [Instr.typeAssert, run_underlying' hd, hz, hne]
theorem run_fails_nil {d : TypeDesc} {t xt : TypeId} {z : Value} (hd : P.underlying t = some d) (hdd : ∀ is, d ≠ .interface is) (hz : ∀ w, (zeroValue t).run P w = .ok z w) :
    (Instr.typeAssert .nilIface xt t true).run P w = .ok (.tuple #[z, .bool false]) w := by
  cases d <;> first | exact absurd rfl (hdd _) | simp [Instr.typeAssert, run_underlying' hd, hz]
theorem step_typeAssert {o : Oper} {K : FV → List (Option LC) → H → R} {res : AV × H} {x : Operand} {xt t : TypeId} {ok : Bool} (hs : SRel φ lam T L h a.tmps w)
    (ho : o.op = .typeAssert x xt t ok) (e : simple P T L h K (.typeAssert x xt t ok) = some res) : Step P φ lam T L h a w o K res := by
  simp only [simple] at e
  split at e
  · cases e
  · rename_i d y z hni hd hx hz
    obtain ⟨zv, q1, hnt, hzr, i, hi, hiz⟩ := zeroT_some hz
    have hzv : VRel φ z zv := cv_rel q1
    have hv := opd_rel hs hx
    generalize hxe : a.eval x = xv at hv
    have hdd : ∀ is, d ≠ .interface is := by
      intro is hh
      subst hh
      exact hni _ rfl
    cases ok with
    | true =>
      cases hv with
      | iface t' v u hu =>
        simp only [tyAs] at e
        by_cases ht : t' = t
        · subst ht
          rw [Nat.beq_refl] at e
          refine Step.pure hs (x := .tuple [v, .bool true]) (v := .tuple #[u, .bool true]) ?_ (.tuple _ [u, .bool true] (.cons _ _ _ _ hu (.cons _ _ _ _ (.bool _) .nil))) e
          simp [execOp, ho, hxe, run_holds hd hdd]
        · have hb : Nat.beq t' t = false := by rw [← Bool.not_eq_true]; exact fun h => ht (Nat.eq_of_beq_eq_true h)
          rw [hb] at e
          refine Step.pure hs (x := .tuple [z, .bool false]) (v := .tuple #[zv, .bool false]) ?_ (.tuple _ [zv, .bool false] (.cons _ _ _ _ hzv (.cons _ _ _ _ (.bool _) .nil))) e
          simp [execOp, ho, hxe, run_fails hd hdd hzr ht]
      | nilIface =>
        simp only [tyAs] at e
        refine Step.pure hs (x := .tuple [z, .bool false]) (v := .tuple #[zv, .bool false]) ?_ (.tuple _ [zv, .bool false] (.cons _ _ _ _ hzv (.cons _ _ _ _ (.bool _) .nil))) e
        simp [execOp, ho, hxe, run_fails_nil hd hdd hzr]
      | _ => cases e
    | false =>
      cases hv with
      | iface t' v u hu =>
        simp only [tyAs] at e
        by_cases ht : t' = t
        · subst ht
          rw [Nat.beq_refl] at e
          refine Step.pure hs (x := v) (v := u) ?_ hu e
          simp [execOp, ho, hxe, run_holds hd hdd]
        · have hb : Nat.beq t' t = false := by rw [← Bool.not_eq_true]; exact fun h => ht (Nat.eq_of_beq_eq_true h)
          rw [hb] at e
          cases e
      | nilIface => cases e
      | _ => cases e
  · cases e
end
end Go.Ev
end
section
/- A slot written. -/
namespace Go.Ev
section
variable {P : Program} {φ : Phi} {lam : Nat → Nat} {T : List (Option FV)} {L : List (Option LC)} {h : H} {w : World} {a : Act}
theorem SRel.put (hs : SRel φ lam T L h a.tmps w) {d : Nat} {x : FV} {v : Value} (hd : d < T.length) (hx : FRel φ lam h w x v)
    (hrow : ∀ cs n d' y, x = .lrow cs n → Ev.look L d' = some y → v ≠ .slice (some ⟨lam d', 0, none⟩) n n) :
    SRel φ lam (setAt T d x) L h (a.put (some d) v).tmps w where
  ref := hs.ref
  size := by simp [Act.put, length_setAt, hs.size]
  val s y hy := by
    have hd' : d < a.tmps.size := by rw [hs.size]; exact hd
    by_cases hsd : s = d
    · subst hsd
      rw [look_setAt_same _ _ _ hd] at hy
      cases hy
      exact ⟨v, by simp [Act.put, hd'], hx⟩
    · rw [look_setAt_ne _ _ _ _ hsd] at hy
      obtain ⟨u, h1, h2⟩ := hs.val s y hy
      exact ⟨u, by simp only [Act.put]; rw [Array.getElem?_setIfInBounds_ne (Ne.symm hsd)]; exact h1, h2⟩
  loc := hs.loc
  inj := hs.inj
  ro := hs.ro
  row s cs n d' y u hy hl hu := by
    have hd' : d < a.tmps.size := by rw [hs.size]; exact hd
    by_cases hsd : s = d
    · subst hsd
      rw [look_setAt_same _ _ _ hd] at hy
      cases hy
      have : u = v := by simpa [Act.put, hd'] using hu.symm
      subst this
      exact hrow cs n d' y rfl hl
    · rw [look_setAt_ne _ _ _ _ hsd] at hy
      simp only [Act.put] at hu
      rw [Array.getElem?_setIfInBounds_ne (Ne.symm hsd)] at hu
      exact hs.row s cs n d' y u hy hl hu
/-- a value's form, looked at once more, changes nothing -/
theorem onRow_some : ∀ (n : Nat) (f : List AV → R) (l : List AV) {res}, onRow n f l = some res → f l = some res
  | 0, f, [], _, e => e
  | 0, f, _ :: _, _, e => by cases e
  | n + 1, f, [], _, e => by cases e
  | n + 1, f, x :: l, _, e => onRow_some n (fun k => f (x :: k)) l e
theorem eqK_true {k k' : IntKind} (h : eqK k k' = true) : k = k' := by
  cases k <;> cases k' <;> first | rfl | cases h
theorem chk_some {fm : Form} {x : AV} {K : AV → R} {res : AV × H} (e : chk fm x K = some res) : K x = some res := by
  cases fm with
  | int k =>
    cases x with
    | int k' n =>
      have e' : (if eqK k k' = true then K (.int k n) else none) = some res := by
        cases hk : eqK k k' with
        | true => simpa [chk, onInt, hk] using e
        | false => simp [chk, onInt, hk] at e
      split at e'
      · rename_i hk; have := eqK_true hk; subst this; exact e'
      · cases e'
    | _ => cases e
  | bool => cases x <;> first | exact e | cases e
  | str => cases x <;> first | exact e | cases e
  | ptr => cases x <;> first | exact e | cases e
  | slice => cases x <;> first | exact e | cases e
  | map => cases x <;> first | exact e | cases e
  | agg n =>
    cases x with
    | agg l => exact onRow_some n _ l e
    | _ => cases e
  | other => exact e
end
end Go.Ev
end
section
/- Lengths. -/
namespace Go.Ev
section
variable {P : Program} {φ : Phi} {lam : Nat → Nat} {T : List (Option FV)} {L : List (Option LC)} {h : H} {w : World} {a : Act}
theorem esK_some {r : Option Nat} {f : List (AV × AV) → R} {res : AV × H} {v : Value} (hr : Ref φ h w) (hv : VRel φ (.map r) v) (e : esK h r f = some res) :
    (∃ es b r' ents clock, f es = some res ∧ r = some b ∧ h.get b = some (.map es) ∧ φ b = some (r', 0) ∧ v = .map (some r') ∧ w.heap[r']? = some (.map ents clock) ∧ MRel φ es ents.toList) ∨
      (r = none ∧ v = .map none ∧ f [] = some res) := by
  cases hv with
  | map0 => exact .inr ⟨rfl, rfl, e⟩
  | map b r' hφ =>
    left
    unfold esK at e
    simp only at e
    split at e
    · rename_i es hg
      obtain ⟨r2, ents, clock, g1, g2, g3⟩ := hr.blk b _ hg
      rw [hφ] at g1
      cases g1
      exact ⟨es, b, r', ents, clock, e, rfl, hg, hφ, rfl, g2, g3⟩
    · cases e
theorem MRel.length {es : List (AV × AV)} {ents : List MapEntry} (hm : MRel φ es ents) : ents.length = es.length := by
  obtain ⟨ks, h1, h3, _⟩ := hm
  have := congrArg List.length h3
  simp at this
  have h2 := h1.length
  omega
theorem step_len {o : Oper} {K : FV → List (Option LC) → H → R} {res : AV × H} {as : Array Operand} {ts : Array TypeId} (hs : SRel φ lam T L h a.tmps w)
    (ho : o.op = .call { callee := .builtin .len, args := as, argTypes := ts }) (e : simple P T L h K (.call { callee := .builtin .len, args := as, argTypes := ts }) = some res) : Step P φ lam T L h a w o K res := by
  simp only [simple] at e
  split at e
  · rename_i v t rest has hts
    have hl := opds_rel hs has
    have h0 : ts[0]? = some t := by rw [← Array.getElem?_toList, hts]; rfl
    generalize hmap : as.toList.map a.eval = vl at hl
    cases hl with | cons _ u _ vs hv hl =>
    cases hl
    have harg : as.map a.eval = #[u] := Array.ext' (by rw [Array.toList_map, hmap])
    have hgo : ∀ {n : Nat}, (Builtin.len_ ts o.type #[u]).run P w = .ok (.int .i64 n) w → (execOp a.eval o).run P w = .ok (.value (.int .i64 n)) w := by
      intro n hr
      simp [execOp, ho, resolve, invoke, builtin, harg, hr]
    split at e
    · rename_i ht
      cases hv with
      | str s b hb =>
        have hsz : s.length = b.size := by rw [← hb]; simp
        refine Step.pure hs (v := .int .i64 (s.length : Nat)) (hgo ?_) (.int _ _) e
        simp [Builtin.len_, h0, run_underlying' ht, goInt, hsz]
      | _ => cases e
    · rename_i el ht
      cases hv with
      | slice0 =>
        refine Step.pure hs (v := .int .i64 (0 : Nat)) (hgo ?_) (.int _ _) e
        simp [Builtin.len_, h0, run_underlying' ht, goInt]
      | slice b o' n c r ro cc hφ hc =>
        refine Step.pure hs (v := .int .i64 (n : Nat)) (hgo ?_) (.int _ _) e
        simp [Builtin.len_, h0, run_underlying' ht, goInt]
      | _ => cases e
    · rename_i kt el ht
      have hv' : ∃ r, v = .map r := by cases v <;> first | exact ⟨_, rfl⟩ | cases e
      obtain ⟨r, rfl⟩ := hv'
      simp only [onMap] at e
      rcases esK_some hs.ref hv e with ⟨es, b, r', ents, clock, h1, rfl, h3, h4, rfl, h6, h7⟩ | ⟨rfl, rfl, h1⟩
      · have hln := h7.length
        simp at hln
        refine Step.pure hs (v := .int .i64 (es.length : Nat)) (hgo ?_) (.int _ _) h1
        have hgo2 : (getObj r').run P w = .ok (.map ents clock) w := by simp [getObj, Sem.run, h6]
        simp [Builtin.len_, h0, run_underlying' ht, goInt, hgo2, hln]
      · refine Step.pure hs (v := .int .i64 (0 : Nat)) (hgo ?_) (.int _ _) h1
        simp [Builtin.len_, h0, run_underlying' ht, goInt]
    · cases e
  · cases e
end
end Go.Ev
end
section
/- Conversions. -/
namespace Go.Ev
section
variable {P : Program} {φ : Phi} {lam : Nat → Nat} {T : List (Option FV)} {L : List (Option LC)} {h : H} {w : World} {a : Act}
theorem run_toInt {s d : TypeId} {ds : TypeDesc} {k k' : IntKind} {n : Int} (hs : P.underlying s = some ds) (hd : P.underlying d = some (.int k)) :
    (convert s d (.int k' n)).run P w = .ok (.int k (k.wrap n)) w := by
  simp [convert, run_underlying' hs, run_underlying' hd, Conv.intToInt]
theorem run_toString {s d : TypeId} {ds : TypeDesc} {b : ByteArray} (hs : P.underlying s = some ds) (hd : P.underlying d = some .string) :
    (convert s d (.string b)).run P w = .ok (.string b) w := by
  cases ds <;> simp [convert, run_underlying' hs, run_underlying' hd]
theorem bytesOf_rel : ∀ {l : List AV} {ks : List Nat} {vs : List Value}, LRel φ l vs → bytesOfCells l = some ks →
    vs = (ks.map Int.ofNat).map (Value.int .u8) ∧ ∀ n ∈ ks, n < 256
  | _, _, _, .nil, e => by simp [bytesOfCells] at e; subst e; exact ⟨rfl, fun _ h => by cases h⟩
  | _, ks, _, .cons x v l vs hx hl, e => by
    unfold bytesOfCells at e
    split at e
    · rename_i n
      cases hn : Nat.blt n 256 with
      | false => rw [hn] at e; cases e
      | true =>
        rw [hn] at e
        simp only [cond_true] at e
        split at e
        · rename_i k hk
          cases e
          obtain ⟨h1, h2⟩ := bytesOf_rel hl hk
          cases hx
          refine ⟨by rw [h1]; rfl, fun m hm => ?_⟩
          cases hm with
          | head => simpa [Nat.blt_eq] using hn
          | tail _ hm => exact h2 m hm
        · cases e
    · cases e
theorem push_all : ∀ (ks : List Nat) (b : ByteArray), (∀ n ∈ ks, n < 256) →
    ((ks.map Int.ofNat).foldl (fun (r : ByteArray) n => r.push (UInt8.ofNat n.toNat)) b).data.toList.map UInt8.toNat = b.data.toList.map UInt8.toNat ++ ks
  | [], b, _ => by simp
  | n :: ks, b, h => by
    simp only [List.map_cons, List.foldl_cons]
    rw [push_all ks _ (fun m hm => h m (List.mem_cons_of_mem _ hm))]
    have hn : n % 256 = n := Nat.mod_eq_of_lt (h n (by simp))
    simp [ByteArray.push, hn]
theorem step_convert {o : Oper} {K : FV → List (Option LC) → H → R} {res : AV × H} {s d : TypeId} {x : Operand} (hs : SRel φ lam T L h a.tmps w)
    (ho : o.op = .convert s d x) (e : simple P T L h K (.convert s d x) = some res) : Step P φ lam T L h a w o K res := by
  simp only [simple] at e
  split at e
  · rename_i cs n hlr
    split at e
    · rename_i el h1 h2
      split at e
      · rename_i h3
        obtain ⟨hn, e⟩ := guardB_some e
        obtain ⟨ks, hk, e⟩ := onOpt_some e
        have hcn : cs.length = n := Nat.eq_of_beq_eq_true hn
        unfold lrowOf at hlr
        split at hlr
        · rename_i t
          split at hlr
          · rename_i cs' n' ht
            cases hlr
            obtain ⟨r, ws, ty, g1, g2, g3, g4, g5⟩ := hs.look ht
            obtain ⟨h4, h5⟩ := bytesOf_rel g3 hk
            have hwl := g3.length
            have g6 : (loadCells ⟨r, 0, none⟩ n).run P w = .ok ws.toArray w := by
              have := run_loadCells_list (P := P) w ⟨r, 0, none⟩ ws (fun j v hv => by rw [addr_add]; simp [World.cell?, g2, hv])
              rwa [← hwl, hcn] at this
            rw [h4] at g6
            have hb := run_bytesToString (P := P) w ⟨r, 0, none⟩ n n _ g6
            refine Step.pure hs (v := .string ((ks.map Int.ofNat).foldl (fun (r : ByteArray) n => r.push (UInt8.ofNat n.toNat)) ByteArray.empty)) ?_ (.str ks _ ?_) e
            · simp only [execOp, ho, g1, Sem.run_bind, run_convert_bytes_string w s d el _ n n h1 h3 h2, hb, Result.andThen_ok, Sem.run_pure]
            · have := push_all ks .empty h5
              simpa using this
          · cases hlr
        · cases hlr
      · cases e
    · cases e
  split at e
  · rename_i k k' n h1 h2 hx
    have hv := opd_rel hs hx
    generalize hxe : a.eval x = xv at hv
    cases hv
    rw [wrapF_eq] at e
    exact Step.pure hs (by simp [execOp, ho, hxe, run_toInt h1 h2]) (.int _ _) e
  · rename_i s' h1 h2 hx
    have hv := opd_rel hs hx
    generalize hxe : a.eval x = xv at hv
    cases hv with | str _ b hb =>
    exact Step.pure hs (by simp [execOp, ho, hxe, run_toString h1 h2]) (.str _ b hb) e
  · rename_i el y n c h1 h2 hx
    have hv := opd_rel hs hx
    generalize hxe : a.eval x = xv at hv
    split at e
    · rename_i h3
      unfold bytesK at e
      split at e
      · cases hv with | slice0 =>
        refine Step.pure hs (v := .string .empty) ?_ (.str [] _ rfl) e
        simp [execOp, ho, hxe, run_convert_bytes_string w s d el none 0 0 h1 h3 h2, Conv.bytesToString]
      · rename_i b off
        obtain ⟨l, vs, r, ro, g1, g2, g3, g4, g5, g6, g7⟩ := ldK_some (P := P) hs.ref e
        obtain ⟨ks, hk, e⟩ := onOpt_some g5
        cases hv with | slice _ _ _ _ r' ro' cc hφ hc =>
        rw [g1] at hφ
        cases hφ
        obtain ⟨h4, h5⟩ := bytesOf_rel g2 hk
        rw [h4] at g6
        have hb := run_bytesToString (P := P) w ⟨r, ro + off, none⟩ n cc _ g6
        refine Step.pure hs (v := .string ((ks.map Int.ofNat).foldl (fun (r : ByteArray) n => r.push (UInt8.ofNat n.toNat)) ByteArray.empty)) ?_ (.str ks _ ?_) e
        · simp only [execOp, ho, hxe, Sem.run_bind, run_convert_bytes_string w s d el _ n cc h1 h3 h2, hb, Result.andThen_ok, Sem.run_pure]
        · have := push_all ks .empty h5
          simpa using this
    · cases e
  · cases e
end
end Go.Ev
end
