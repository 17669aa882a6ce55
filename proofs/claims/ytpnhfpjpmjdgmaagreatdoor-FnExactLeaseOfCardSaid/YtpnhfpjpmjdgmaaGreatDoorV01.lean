/- Texts of a proof, joined by a program (merge.py): TlA TlB TlC TlD TlE TlF TlG. -/
import Derived.Calls
import Derived.Below
import Derived.Eval
import Derived.RowKit3
import GoSem.Claims
import Derived.ProofKit
import Derived.Deep.MidRow
set_option linter.all false
/- TlA -/
namespace Go.TL
open Go

/-- Comparisons of numbers, in the form that an evaluation knows. -/
def eqB (a b : Nat) : Bool := a == b
def leB (a b : Nat) : Bool := decide (a ≤ b)
def ltB (a b : Nat) : Bool := decide (a < b)
theorem eq_of_eqB {a b : Nat} (h : eqB a b = true) : a = b := by simpa [eqB] using h
theorem le_of_leB {a b : Nat} (h : leB a b = true) : a ≤ b := by simpa [leB] using h
theorem lt_of_ltB {a b : Nat} (h : ltB a b = true) : a < b := by simpa [ltB] using h
@[simp] theorem eqB_iff {a b : Nat} : eqB a b = true ↔ a = b := by simp [eqB]
@[simp] theorem leB_iff {a b : Nat} : leB a b = true ↔ a ≤ b := by simp [leB]
@[simp] theorem ltB_iff {a b : Nat} : ltB a b = true ↔ a < b := by simp [ltB]
@[simp] theorem eqB_refl (a : Nat) : eqB a a = true := by simp

/-- What one cell holds, read as a tree: slices as lists of their elements' cells. -/
inductive T where
  | bool (b : Bool)
  | int (k : IntKind) (n : Int)
  | str (s : List UInt8)
  | sl (es : List (List T))
  | fn (f : Fn) (first : List (List T)) (caps : List T)
  | pt (cs : List T) (off : Nat)
instance : Inhabited T := ⟨.bool false⟩

inductive Cap where
  | t (c : T)
  | ptr (o off : Nat)

/-- What a cell of a state holds: a tree, or a reference to an object of the state. -/
inductive V where
  | t (c : T)
  | nil
  | row (o g : Nat)
  | ptr (o off : Nat)
  | elt (o g : Nat) (i : Int) (j : Nat)
  | fn (f : Fn) (first : List (List T)) (caps : List Cap)
  | bsl (o n sz : Nat)
  | part (o g : Nat) (i j : Int)
  | sub (o g : Nat) (i : Int) (j : Nat)
  | selt (o g : Nat) (i : Int) (j : Nat) (k : Int)
  | any
instance : Inhabited V := ⟨.any⟩

inductive A where
  | one (v : V)
  | agg (vs : List V)
  | tup (l : List A)
instance : Inhabited A := ⟨.one .any⟩

inductive Ob where
  | box (cs : List V) (fz : Bool)
  | row (sz : Nat) (es : List (List T)) (cur : Nat) (tags : List Nat) (fz : Bool)

abbrev Obs := List (Nat × Ob)
abbrev Tms := List (Nat × A)
structure St where
  tm : Tms
  ob : Obs

def look {α : Type} : List (Nat × α) → Nat → Option α
  | [], _ => none
  | (i, v) :: l, j => if i = j then some v else look l j
def put {α : Type} : List (Nat × α) → Nat → α → List (Nat × α)
  | [], i, a => [(i, a)]
  | (i, v) :: l, j, a => if i = j then (i, a) :: l else (i, v) :: put l j a
def del {α : Type} : List (Nat × α) → Nat → List (Nat × α)
  | [], _ => []
  | (i, v) :: l, j => if i = j then l else (i, v) :: del l j
def puts {α : Type} (l : List (Nat × α)) : List (Nat × α) → List (Nat × α)
  | [] => l
  | (i, a) :: r => puts (put l i a) r

/-- The operations on numbers and lists: a structure, so that an evaluation leaves them standing while it is a variable. -/
structure Ar where
  iop : BinOp → IntKind → Int → Int → Int
  icmp : BinOp → Int → Int → Bool
  neg : IntKind → Int → Int
  compl : IntKind → Int → Int
  conv : IntKind → Int → Int
  imin : Int → Int → Int
  imax : Int → Int → Int
  bnot : Bool → Bool
  beq : Bool → Bool → Bool
  seq : List UInt8 → List UInt8 → Bool
  slt : List UInt8 → List UInt8 → Bool
  sapp : List UInt8 → List UInt8 → List UInt8
  slen : List UInt8 → Int
  ssub : List UInt8 → Int → Int → List UInt8
  sget : List UInt8 → Int → Int
  len : List (List T) → Int
  get : List (List T) → Int → List T
  sub : List (List T) → Int → Int → List (List T)
  app : List (List T) → List (List T) → List (List T)
  setc : List (List T) → Int → Nat → List T → List (List T)
  rep : Int → List T → List (List T)
  ofStr : List UInt8 → List (List T)
  inb : Int → List (List T) → Prop
  insub : Int → Int → List (List T) → Prop
  insstr : Int → Int → List UInt8 → Prop
  sinb : Int → List UInt8 → Prop
  room : Nat → List (List T) → Prop
  mkroom : Nat → Int → Prop
  wid : Nat → List (List T) → Prop
  shok : Int → Prop
  nz : Int → Prop
  big : List (List T) → Prop
  sbig : List UInt8 → Prop
  sbig2 : List UInt8 → Prop
  has : IntKind → Int → Prop
  emp : List (List T) → Prop
  flat : List (List T) → Prop

end Go.TL
namespace Go.TL
open Go

/-- What the evaluator knows of a type. -/
inductive Kd where
  | int (k : IntKind) | bool | str | slice (e : Nat) | struct (fs : List (Nat × Nat)) | array (n e : Nat) | tuple (ts : List Nat) | other
structure TI where
  kd : Kd
  size : Nat
  agg : Bool
  bytes : Nat
  zero : Option (List V)

inductive Tab where
  | leaf
  | node (l : Tab) (k : Nat) (i : TI) (r : Tab)
def Tab.find : Tab → Nat → Option TI
  | .leaf, _ => none
  | .node l k i r, n => bif eqB n k then some i else bif leB n k then l.find n else r.find n

/-- The table as a function: it stays folded in an evaluation. -/
abbrev TF := Nat → Option TI

/-- The width of a row's elements. A row of a size from 1000000 on owns its elements' slices, and theirs; one from 2000000 on does so, too, and never grows. -/
def wd (sz : Nat) : Nat := sz % 1000000
inductive Cls where
  | s | d | p | f
def cls (sz : Nat) (fz : Bool) : Cls := bif ltB sz 1000000 then .s else bif ltB sz 2000000 then (bif fz then .s else .d) else (bif fz then .f else .p)
def isD (sz : Nat) (fz : Bool) : Bool := match cls sz fz with
  | .d => true
  | _ => false
def isP (sz : Nat) (fz : Bool) : Bool := match cls sz fz with
  | .p => true
  | _ => false
/-- Values that hold no memory. -/
def flatT : T → Bool
  | .int _ _ => true
  | .bool _ => true
  | .str _ => true
  | _ => false
def flatTs : List T → Bool
  | [] => true
  | t :: r => flatT t && flatTs r
def nm (d j : Nat) : Nat := (d + 1) * 32 + j

/-- Cells that are trees, or nil. -/
def treesC : List V → Option (List T)
  | [] => some []
  | .t c :: l => match treesC l with | some r => some (c :: r) | none => none
  | .nil :: l => match treesC l with | some r => some (.sl [] :: r) | none => none
  | _ :: _ => none
def Cap.tree (lk : Nat → Option Ob) : Cap → Option T
  | .t c => some c
  | .ptr o off => match lk o with
    | some (.box cs _) => match treesC cs with
      | some l => some (.pt l off)
      | none => none
    | _ => none
def capsTree (lk : Nat → Option Ob) : List Cap → Option (List T)
  | [] => some []
  | c :: r => match c.tree lk, capsTree lk r with
    | some t, some l => some (t :: l)
    | _, _ => none
def V.tree (lk : Nat → Option Ob) : V → Option T
  | .t c => some c
  | .nil => some (.sl [])
  | .row o g => match lk o with
    | some (.row _ es cur _ _) => bif eqB g cur then some (.sl es) else none
    | _ => none
  | .ptr o off => Cap.tree lk (.ptr o off)
  | .fn f first caps => match capsTree lk caps with
    | some l => some (.fn f first l)
    | none => none
  | _ => none
def trees (lk : Nat → Option Ob) : List V → Option (List T)
  | [] => some []
  | v :: l => match v.tree lk, trees lk l with
    | some c, some r => some (c :: r)
    | _, _ => none
def A.tree (lk : Nat → Option Ob) : A → Option A
  | .one v => match v.tree lk with | some c => some (.one (.t c)) | none => none
  | .agg vs => match trees lk vs with | some l => some (.agg (l.map .t)) | none => none
  | .tup l => match go l with | some r => some (.tup r) | none => none
where go : List A → Option (List A)
  | [] => some []
  | a :: l => match A.tree lk a, go l with
    | some c, some r => some (c :: r)
    | _, _ => none
/-- The objects that a value refers to. -/
def crefs : List Cap → List Nat
  | [] => []
  | .ptr o _ :: r => o :: crefs r
  | .t _ :: r => crefs r
def V.refs : V → List Nat
  | .row o _ => [o]
  | .ptr o _ => [o]
  | .elt o _ _ _ => [o]
  | .bsl o _ _ => [o]
  | .part o _ _ _ => [o]
  | .sub o _ _ _ => [o]
  | .selt o _ _ _ _ => [o]
  | .fn _ _ caps => crefs caps
  | _ => []
def vrefs : List V → List Nat
  | [] => []
  | v :: l => v.refs ++ vrefs l
def A.refs : A → List Nat
  | .one v => v.refs
  | .agg vs => vrefs vs
  | .tup l => go l
where go : List A → List Nat
  | [] => []
  | a :: l => A.refs a ++ go l

/-! Renaming: a list of old names and new ones; what it does not name is forgotten, and elder generations with it. -/
def memB (n : Nat) : List Nat → Bool
  | [] => false
  | m :: r => bif eqB n m then true else memB n r
def nodupB : List Nat → Bool
  | [] => true
  | n :: r => bif memB n r then false else nodupB r
/-- The first list's numbers behind the second's, each once. -/
def nub : List Nat → List Nat → List Nat
  | [], acc => acc
  | n :: r, acc => match memB n acc with
    | true => nub r acc
    | false => nub r (acc ++ [n])
def fsts : List (Nat × Nat) → List Nat
  | [] => []
  | (a, _) :: r => a :: fsts r
def snds : List (Nat × Nat) → List Nat
  | [] => []
  | (_, b) :: r => b :: snds r
def numFrom : Nat → List Nat → List (Nat × Nat)
  | _, [] => []
  | k, n :: r => (n, k) :: numFrom (k + 1) r
def numTo : Nat → List Nat → List (Nat × Nat)
  | _, [] => []
  | k, n :: r => (k, n) :: numTo (k + 1) r
def idR : List Nat → List (Nat × Nat)
  | [] => []
  | n :: r => (n, n) :: idR r
def upto : Nat → List Nat
  | 0 => []
  | k + 1 => upto k ++ [k]
def capsRen (ρ : List (Nat × Nat)) : List Cap → Option (List Cap)
  | [] => some []
  | .t c :: r => match capsRen ρ r with
    | some l => some (.t c :: l)
    | none => none
  | .ptr o off :: r => match look ρ o, capsRen ρ r with
    | some o', some l => some (.ptr o' off :: l)
    | _, _ => none
/-- A generation as it is: an own row that was handed in as the 7th keeps it. -/
def keep7 : Nat → Nat → Nat := fun _ c => bif eqB c 7 then 7 else 0
def gAll (g : Nat) : Nat → Nat → Nat := fun _ _ => g
def V.ren (ρ : List (Nat × Nat)) (g0 : Nat → Nat → Nat) (lk : Nat → Option Ob) : V → V
  | .row o g => match look ρ o, lk o with
    | some o', some (.row _ _ cur _ _) => bif eqB g cur then .row o' (g0 o g) else .any
    | _, _ => .any
  | .ptr o off => match look ρ o with
    | some o' => .ptr o' off
    | none => .any
  | .elt o g i j => match look ρ o, lk o with
    | some o', some (.row _ _ cur _ _) => bif eqB g cur then .elt o' (g0 o g) i j else .any
    | _, _ => .any
  | .fn f first caps => match capsRen ρ caps with
    | some l => .fn f first l
    | none => .any
  | .bsl o n sz => match look ρ o with
    | some o' => .bsl o' n sz
    | none => .any
  | .part o g i j => match look ρ o, lk o with
    | some o', some (.row _ _ cur _ _) => bif eqB g cur then .part o' (g0 o g) i j else .any
    | _, _ => .any
  | .sub o g i j => match look ρ o, lk o with
    | some o', some (.row _ _ cur _ _) => bif eqB g cur then .sub o' (g0 o g) i j else .any
    | _, _ => .any
  | .selt o g i j k => match look ρ o, lk o with
    | some o', some (.row _ _ cur _ _) => bif eqB g cur then .selt o' (g0 o g) i j k else .any
    | _, _ => .any
  | .t c => .t c
  | .nil => .nil
  | .any => .any
def vsRen (ρ : List (Nat × Nat)) (g0 : Nat → Nat → Nat) (lk : Nat → Option Ob) : List V → List V
  | [] => []
  | v :: l => v.ren ρ g0 lk :: vsRen ρ g0 lk l
def A.ren (ρ : List (Nat × Nat)) (g0 : Nat → Nat → Nat) (lk : Nat → Option Ob) : A → A
  | .one v => .one (v.ren ρ g0 lk)
  | .agg vs => .agg (vsRen ρ g0 lk vs)
  | .tup l => .tup (go l)
where go : List A → List A
  | [] => []
  | a :: l => A.ren ρ g0 lk a :: go l
def Ob.ren (ρ : List (Nat × Nat)) (g0 : Nat → Nat → Nat) (lk : Nat → Option Ob) (o : Nat) : Ob → Ob
  | .box cs fz => .box (vsRen ρ g0 lk cs) fz
  | .row sz es cur _ fz => .row sz es (g0 o cur) [g0 o cur] fz
def renT (ρ : List (Nat × Nat)) (g0 : Nat → Nat → Nat) (lk : Nat → Option Ob) : Tms → Tms
  | [] => []
  | (t, a) :: r => (t, a.ren ρ g0 lk) :: renT ρ g0 lk r
def renO (ρ : List (Nat × Nat)) (g0 : Nat → Nat → Nat) (lk : Nat → Option Ob) : List (Nat × Nat) → Obs
  | [] => []
  | (o, o') :: r => match lk o with
    | some b => (o', b.ren ρ g0 lk o) :: renO ρ g0 lk r
    | none => renO ρ g0 lk r
def okRen (ρ : List (Nat × Nat)) : Bool := nodupB (fsts ρ) && nodupB (snds ρ)
/-- All numbers below the bound keep their names. -/
def keepB (ρ : List (Nat × Nat)) : Nat → Bool
  | 0 => true
  | k + 1 => (match look ρ k with | some k' => eqB k k' | none => false) && keepB ρ k
def renS (m : Nat) (ρ : List (Nat × Nat)) (st : St) : Option St :=
  bif okRen ρ && keepB ρ m then some ⟨renT ρ keep7 (look st.ob) st.tm, renO ρ keep7 (look st.ob) ρ⟩ else none
/-- What objects lead to. -/
def oref (lk : Nat → Option Ob) : List Nat → List Nat
  | [] => []
  | n :: r => match lk n with
    | some (.box cs _) => vrefs cs ++ oref lk r
    | _ => oref lk r
def reach (lk : Nat → Option Ob) : Nat → List Nat → List Nat
  | 0, l => l
  | k + 1, l => reach lk k (nub (oref lk l) l)
def keys : Obs → List Nat
  | [] => []
  | (n, _) :: r => n :: keys r
/-- The objects behind an operation's writes. -/
def updO (ob : Nat → Option Ob) (wr : Obs) : Nat → Option Ob := fun n => match look wr.reverse n with | some o => some o | none => ob n

/-- How a function takes its arguments: as trees, or as they are (cells that are nil as empty rows of their own); and whether what it was lent stays the caller's. -/
structure Md where
  own : List (Option (List (Nat × Nat)))
  bor : Bool
abbrev MF := Nat → Md

/-- The outcome of one operation. -/
inductive SR where
  | ret (a : A) (wr : Obs)
  | req (c : Prop) (k : SR)
  | fact (c : Prop) (k : SR)
  | amb (c : Bool → Prop) (k : Bool → SR)
  | br (b : Bool) (t f : SR)
  | get (es : List (List T)) (i : Int) (k : List T → SR)
  | bytes (es : List (List T)) (k : List UInt8 → SR)
  | callG (f : Nat) (args : List A) (ob : Obs) (k : A → Obs → SR)
  | bad

def SR.ofOpt : Option A → SR
  | some a => .ret a []
  | none => .bad

/-- The int kinds' bounds, as a test of a literal. -/
def hasB : IntKind → Int → Bool
  | .i8, n => decide (-128 ≤ n) && decide (n ≤ 127)
  | .i16, n => decide (-32768 ≤ n) && decide (n ≤ 32767)
  | .i32, n => decide (-2147483648 ≤ n) && decide (n ≤ 2147483647)
  | .i64, n => decide (-9223372036854775808 ≤ n) && decide (n ≤ 9223372036854775807)
  | .u8, n => decide (0 ≤ n) && decide (n ≤ 255)
  | .u16, n => decide (0 ≤ n) && decide (n ≤ 65535)
  | .u32, n => decide (0 ≤ n) && decide (n ≤ 4294967295)
  | .u64, n => decide (0 ≤ n) && decide (n ≤ 18446744073709551615)

def constA : Value → Option A
  | .bool b => some (.one (.t (.bool b)))
  | .int k n => bif hasB k n then some (.one (.t (.int k n))) else none
  | .string s => bif leB s.data.toList.length 1000000 then some (.one (.t (.str s.data.toList))) else none
  | .slice none 0 0 => some (.one .nil)
  | _ => some (.one .any)

def ev (tm : Nat → Option A) : Operand → Option A
  | .tmp t => tm t
  | .const v => constA v
  | .func f => some (.one (.t (.fn (.func f) [] [])))
  | .global _ => none

def A.cells : A → Option (List V)
  | .one .any => none
  | .one v => some [v]
  | .agg vs => some vs
  | .tup _ => none

def SR.new (lk : Nat → Option Ob) (n : Nat) (ob : Ob) (a : A) : SR :=
  match lk n with
  | none => .ret a [(n, ob)]
  | some _ => .bad

/-- Cells from 'off' on take others' place. -/
def setAt {α : Type} : List α → Nat → List α → List α
  | l, _, [] => l
  | [], _, _ => []
  | _ :: l, 0, x :: r => x :: setAt l 0 r
  | y :: l, n + 1, r => y :: setAt l n r

def fillS (tab : Nat → Option TI) (fs : List (Nat × Nat)) : List V → List (Nat × Option A) → Option (List V)
  | cs, [] => some cs
  | cs, (i, some a) :: r => match fs[i]?, a.cells with
    | some (off, u), some vs => match tab u with
      | some ti => bif eqB vs.length ti.size && leB (off + vs.length) cs.length then fillS tab fs (setAt cs off vs) r else none
      | none => none
    | _, _ => none
  | _, (_, none) :: _ => none

/-- The elements of a slice's literal, in order, none missing. -/
def elemsOf (lk : Nat → Option Ob) (sz : Nat) : Nat → List (Nat × Option A) → Option (List (List T))
  | _, [] => some []
  | k, (i, some a) :: r => match a.cells with
    | some vs => match trees lk vs, elemsOf lk sz (k + 1) r with
      | some l, some ls => bif eqB i k && eqB l.length sz then some (l :: ls) else none
      | _, _ => none
    | none => none
  | _, (_, none) :: _ => none
def frOb : Ob → Ob
  | .box cs _ => .box cs true
  | .row sz es cur tags _ => .row sz es cur tags true
def frz (lk : Nat → Option Ob) : List Nat → Obs
  | [] => []
  | o :: r => match lk o with
    | some ob => (o, frOb ob) :: frz lk r
    | none => frz lk r
def refsOf : List (Nat × Option A) → List Nat
  | [] => []
  | (_, some a) :: r => a.refs ++ refsOf r
  | _ :: r => refsOf r

def loadA (agg : Bool) (cs : List V) : A :=
  bif agg then .agg cs else match cs with | [v] => .one v | _ => .one .any

end Go.TL

/- TlB -/
namespace Go.TL
open Go

/-- A cell of a row that owns what it leads to: numbers as they are, a slice by its place. -/
def cellD (o g : Nat) (i : Int) (j : Nat) : T → Option V
  | .int k n => some (.t (.int k n))
  | .bool b => some (.t (.bool b))
  | .str s => some (.t (.str s))
  | .sl _ => some (.sub o g i j)
  | _ => none
def cellsD (o g : Nat) (i : Int) : Nat → List T → Option (List V)
  | _, [] => some []
  | j, t :: r => match cellD o g i j t, cellsD o g i (j + 1) r with
    | some v, some l => some (v :: l)
    | _, _ => none
def sLoad (tab : TF) (t : Nat) (lk : Nat → Option Ob) : Option A → SR
  | some (.one (.ptr o off)) => match tab t, lk o with
    | some ti, some (.box cs _) => bif leB (off + ti.size) cs.length then .ret (loadA ti.agg ((cs.drop off).take ti.size)) [] else .bad
    | _, _ => .bad
  | some (.one (.t (.pt cs off))) => match tab t with
    | some ti => bif leB (off + ti.size) cs.length then .ret (loadA ti.agg (((cs.drop off).take ti.size).map .t)) [] else .bad
    | none => .bad
  | some (.one (.elt o g i j)) => match tab t, lk o with
    | some ti, some (.row sz es cur _ fz) => bif eqB g cur then (match cls sz fz with
        | .s => .get es i fun e => bif leB (j + ti.size) e.length && eqB e.length (wd sz) then .ret (loadA ti.agg (((e.drop j).take ti.size).map .t)) [] else .bad
        | .p => .get es i fun e => bif leB (j + ti.size) e.length then (match cellsD o g i j ((e.drop j).take ti.size) with
            | some vs => .ret (loadA ti.agg vs) []
            | none => .bad) else .bad
        | _ => .bad)
      else .bad
    | _, _ => .bad
  | some (.one (.selt o g i j k)) => match tab t, lk o with
    | some ti, some (.row sz es cur _ fz) => bif isP sz fz && (eqB g cur && (eqB ti.size 1 && !ti.agg)) then
        .get es i fun e => (match e[j]? with
          | some (.sl l) => .get l k fun x => (match x with
            | [.int kk n] => .ret (.one (.t (.int kk n))) []
            | _ => .bad)
          | _ => .bad)
      else .bad
    | _, _ => .bad
  | _ => .bad

/-- No cell of which nothing is known. -/
def noAny : List V → Bool
  | [] => true
  | .any :: _ => false
  | _ :: l => noAny l

def sStore (ar : Ar) (tab : TF) (t : Nat) (lk : Nat → Option Ob) : Option A → Option A → SR
  | some (.one (.ptr o off)), some x => match tab t, lk o, x.cells with
    | some ti, some (.box cs false), some vs => bif eqB vs.length ti.size && leB (off + ti.size) cs.length && noAny vs then .ret (.one .any) [(o, .box (setAt cs off vs) false)] else .bad
    | _, _, _ => .bad
  | some (.one (.elt o g i j)), some x => match tab t, lk o, x.cells with
    | some ti, some (.row sz es cur tags false), some vs => match treesC vs with
      | some l => bif eqB g cur && eqB l.length ti.size && leB (j + ti.size) (wd sz) then (match cls sz false with
          | .s => .req (ar.inb i es) (.ret (.one .any) [(o, .row sz (ar.setc es i j l) cur tags false)])
          | .p => bif flatTs l then .req (ar.inb i es) (.ret (.one .any) [(o, .row sz (ar.setc es i j l) cur tags false)]) else .bad
          | _ => .bad) else .bad
      | none => .bad
    | _, _, _ => .bad
  | some (.one (.selt o g i j k)), some (.one (.t (.int kk n))) => match tab t, lk o with
    | some ti, some (.row sz es cur tags false) => bif isP sz false && (eqB g cur && eqB ti.size 1) then
        .get es i fun e => (match e[j]? with
          | some (.sl l) => .get l k fun y => (match y with
            | [.int kk' _] => bif decide (kk = kk') then .ret (.one .any) [(o, .row sz (ar.setc es i j [.sl (ar.setc l k 0 [.int kk n])]) cur tags false)] else .bad
            | _ => .bad)
          | _ => .bad)
      else .bad
    | _, _ => .bad
  | _, _ => .bad
/-- Cells of which each is a number, an empty slice, or an own row, which is taken: what they read as, the rows, the rows' contents that must hold no memory. -/
structure Abs where
  ts : List T
  cs : List Nat
  fl : List (List (List T))
def absC (lk : Nat → Option Ob) : List V → Option Abs
  | [] => some ⟨[], [], []⟩
  | v :: r => match absC lk r with
    | none => none
    | some a => match v with
      | .t c => bif flatT c then some ⟨c :: a.ts, a.cs, a.fl⟩ else none
      | .nil => some ⟨.sl [] :: a.ts, a.cs, a.fl⟩
      | .row o g => (match lk o with
        | some (.row sz es cur _ false) => bif eqB g cur then (match cls sz false with
            | .s => some ⟨.sl es :: a.ts, o :: a.cs, es :: a.fl⟩
            | _ => some ⟨.sl es :: a.ts, o :: a.cs, a.fl⟩) else none
        | _ => none)
      | _ => none
/-- The rows that are taken, as they are left: of another generation, with nothing in them. -/
def tomb (lk : Nat → Option Ob) (n : Nat) : List Nat → Obs
  | [] => []
  | o :: r => (match lk o with
    | some (.row sz _ _ tags _) => (o, .row sz [] n (n :: tags) false) :: tomb lk n r
    | _ => tomb lk n r)
def flatsR (ar : Ar) : List (List (List T)) → SR → SR
  | [], k => k
  | es :: r, k => .req (ar.flat es) (flatsR ar r k)
/-- The generation is none that the rows have had. -/
def newTag (lk : Nat → Option Ob) (g : Nat) : List Nat → Bool
  | [] => true
  | n :: r => (match lk n with | some (.row _ _ _ tags _) => !(memB g tags) | _ => true) && newTag lk g r
def sStoreD (ar : Ar) (tab : TF) (t n : Nat) (lk : Nat → Option Ob) : Option A → Option A → SR
  | some (.one (.elt o g i j)), some x => match tab t, lk o, x.cells with
    | some ti, some (.row sz es cur tags false), some vs => (match cls sz false with
      | .d => (match absC lk vs with
        | some a => bif eqB g cur && (eqB a.ts.length ti.size && (leB (j + ti.size) (wd sz) && (nodupB (o :: a.cs) && (newTag lk n a.cs && !(eqB n 7))))) then
            .req (ar.inb i es) (flatsR ar a.fl (.ret (.one .any) (tomb lk n a.cs ++ [(o, .row sz (ar.setc es i j a.ts) cur tags false)]))) else .bad
        | none => .bad)
      | _ => sStore ar tab t lk (some (.one (.elt o g i j))) (some x))
    | _, _, _ => .bad
  | a, b => sStore ar tab t lk a b

def fieldOff (tab : TF) (t f : Nat) : Option (Nat × Nat) :=
  match tab t with
  | some ti => match ti.kd with
    | .struct fs => fs[f]?
    | _ => none
  | none => none

def sFieldAddr (tab : TF) (t f : Nat) (lk : Nat → Option Ob) : Option A → SR
  | some (.one (.ptr o off)) => match fieldOff tab t f with
    | some (k, _) => .ret (.one (.ptr o (off + k))) []
    | none => .bad
  | some (.one (.t (.pt cs off))) => match fieldOff tab t f with
    | some (k, _) => .ret (.one (.t (.pt cs (off + k)))) []
    | none => .bad
  | some (.one (.elt o g i j)) => match fieldOff tab t f, lk o with
    | some (k, _), some (.row _ _ cur _ _) => bif eqB g cur then .ret (.one (.elt o g i (j + k))) [] else .bad
    | _, _ => .bad
  | _ => .bad

def sField (tab : TF) (t f : Nat) : Option A → SR
  | some (.agg vs) => match fieldOff tab t f with
    | some (k, u) => match tab u with
      | some ti => bif leB (k + ti.size) vs.length then .ret (loadA ti.agg ((vs.drop k).take ti.size)) [] else .bad
      | none => .bad
    | none => .bad
  | _ => .bad

def sliceOf (tab : TF) (t : Nat) : Option Nat := match tab t with
  | some ti => match ti.kd with
    | .slice e => some e
    | _ => none
  | none => none

def sIndexAddr (ar : Ar) (tab : TF) (t : Nat) (lk : Nat → Option Ob) : Option A → Option A → SR
  | some (.one (.t (.sl es))), some (.one (.t (.int _ i))) => match sliceOf tab t with
    | some e => match tab e with
      | some te => .get es i fun x => bif eqB x.length te.size then .ret (.one (.t (.pt x 0))) [] else .bad
      | none => .bad
    | none => .bad
  | some (.one (.row o g)), some (.one (.t (.int _ i))) => match sliceOf tab t with
    | some e => match tab e, lk o with
      | some te, some (.row sz es cur _ _) => bif eqB g cur && eqB te.size sz then .req (ar.inb i es) (.ret (.one (.elt o g i 0)) []) else .bad
      | _, _ => .bad
    | none => .bad
  | some (.one (.ptr o off)), some (.one (.t (.int _ i))) => match tab t with
    | some ti => match ti.kd with
      | .array n e => match tab e with
        | some te => bif decide (0 ≤ i) && decide (i < n) then .ret (.one (.ptr o (off + i.toNat * te.size))) [] else .bad
        | none => .bad
      | _ => .bad
    | none => .bad
  | _, _ => .bad

def sIndexAddr2 (ar : Ar) (tab : TF) (t : Nat) (lk : Nat → Option Ob) : Option A → Option A → SR
  | some (.one (.bsl o n sz)), some (.one (.t (.int _ i))) => match sliceOf tab t with
    | some e => match tab e with
      | some te => bif eqB te.size sz && (decide (0 ≤ i) && decide (i < Int.ofNat n)) then .ret (.one (.ptr o (i.toNat * sz))) [] else .bad
      | none => .bad
    | none => .bad
  | a, b => sIndexAddr ar tab t lk a b

/-- The elements of a variable that is an array of numbers, taken as a row of its own. -/
def sIndexAddr3 (ar : Ar) (tab : TF) (t : Nat) (lk : Nat → Option Ob) : Option A → Option A → SR
  | some (.one (.elt o g i0 j0)), some (.one (.t (.int _ i))) => match tab t, lk o with
    | some ti, some (.row sz es cur _ _) => match ti.kd with
      | .array m e => match tab e with
        | some te => bif eqB g cur && (eqB te.size 1 && (eqB sz 1 && (eqB j0 0 && decide (i0 = 0)))) then .req (ar.inb i es ∧ ar.len es = Int.ofNat m) (.ret (.one (.elt o g i 0)) []) else .bad
        | none => .bad
      | _ => .bad
    | _, _ => .bad
  | a, b => sIndexAddr2 ar tab t lk a b

/-- The elements of a row that owns what it leads to, and of a slice in it. -/
def sIndexAddrD (ar : Ar) (tab : TF) (t : Nat) (lk : Nat → Option Ob) : Option A → Option A → SR
  | some (.one (.row o g)), some (.one (.t (.int k i))) => match lk o with
    | some (.row sz es cur _ fz) => (match cls sz fz with
      | .s => sIndexAddr3 ar tab t lk (some (.one (.row o g))) (some (.one (.t (.int k i))))
      | .f => .bad
      | _ => match sliceOf tab t with
        | some e => match tab e with
          | some te => bif eqB g cur && eqB te.size (wd sz) then .req (ar.inb i es) (.ret (.one (.elt o g i 0)) []) else .bad
          | none => .bad
        | none => .bad)
    | _ => .bad
  | some (.one (.sub o g i j)), some (.one (.t (.int _ k))) => match sliceOf tab t, lk o with
    | some e, some (.row sz es cur _ fz) => (match tab e with
      | some te => bif isP sz fz && (eqB g cur && eqB te.size 1) then
          .get es i fun x => (match x[j]? with
            | some (.sl l) => .req (ar.inb k l) (.ret (.one (.selt o g i j k)) [])
            | _ => .bad)
          else .bad
      | none => .bad)
    | _, _ => .bad
  | a, b => sIndexAddr3 ar tab t lk a b
def isStr (tab : TF) (t : Nat) : Bool := match tab t with | some ti => (match ti.kd with | .str => true | _ => false) | none => false
def sIndex (ar : Ar) (tab : TF) (t : Nat) : Option A → Option A → SR
  | some (.one (.t (.str s))), some (.one (.t (.int _ i))) => bif isStr tab t then .req (ar.sinb i s) (.ret (.one (.t (.int .u8 (ar.sget s i)))) []) else .bad
  | some (.agg vs), some (.one (.t (.int _ i))) => match tab t with
    | some ti => match ti.kd with
      | .array n e => match tab e with
        | some te => bif (decide (0 ≤ i) && decide (i < n)) && leB (i.toNat * te.size + te.size) vs.length then .ret (loadA te.agg ((vs.drop (i.toNat * te.size)).take te.size)) [] else .bad
        | none => .bad
      | _ => .bad
    | none => .bad
  | _, _ => .bad

/-- What a bound reads as: none given, or a number. -/
def bnd (ρ : Operand → Option A) : Option Operand → Int → Option Int
  | none, d => some d
  | some x, _ => match ρ x with
    | some (.one (.t (.int _ i))) => some i
    | _ => none

def sSliceT (ar : Ar) (tab : TF) (t : Nat) (ρ : Operand → Option A) (lo hi mx : Option Operand) (wr : Obs) (es : List (List T)) : SR :=
  match sliceOf tab t with
  | some e => match tab e with
    | some te => match bnd ρ lo 0, bnd ρ hi (ar.len es), mx with
      | some l, some h, none => .req (ar.insub l h es ∧ ar.wid te.size es) (.ret (.one (.t (.sl (ar.sub es l h)))) wr)
      | some l, some h, some m => match hi, bnd ρ (some m) 0 with
        | some _, some k => .req (ar.insub l h es ∧ ar.insub h k es ∧ ar.wid te.size es) (.ret (.one (.t (.sl (ar.sub es l h)))) wr)
        | _, _ => .bad
      | _, _, _ => .bad
    | none => .bad
  | none => .bad
def sSlice (ar : Ar) (tab : TF) (t : Nat) (lk : Nat → Option Ob) (ρ : Operand → Option A) (lo hi mx : Option Operand) : Option A → SR
  | some (.one (.t (.str s))) => match bnd ρ lo 0, bnd ρ hi (ar.slen s), mx with
    | some l, some h, none => bif isStr tab t then .req (ar.insstr l h s) (.ret (.one (.t (.str (ar.ssub s l h)))) []) else .bad
    | _, _, _ => .bad
  | some (.one v) => match v.tree lk with
    | some (.sl es) => sSliceT ar tab t ρ lo hi mx (frz lk v.refs) es
    | _ => .bad
  | _ => .bad

/-- A part of an own row, as such. -/
def sPart (ar : Ar) (tab : TF) (t : Nat) (lk : Nat → Option Ob) (ρ : Operand → Option A) (lo hi mx : Option Operand) : Option A → SR
  | some (.one (.row o g)) => match sliceOf tab t, lk o, mx with
    | some e, some (.row sz es cur _ _), none => match tab e, bnd ρ lo 0, bnd ρ hi (ar.len es) with
      | some te, some l, some h => bif eqB g cur && eqB te.size sz then .req (ar.insub l h es) (.ret (.one (.part o g l h)) []) else .bad
      | _, _, _ => .bad
    | _, _, _ => .bad
  | _ => .bad

def cmpOp : BinOp → Bool
  | .eql | .neq | .lss | .leq | .gtr | .geq => true
  | _ => false

def isBool (tab : TF) (t : Nat) : Bool := match tab t with | some ti => (match ti.kd with | .bool => true | _ => false) | none => false
def isSlice (tab : TF) (t : Nat) : Bool := match tab t with | some ti => (match ti.kd with | .slice _ => true | _ => false) | none => false

def sBin (ar : Ar) (tab : TF) (t : Nat) (op : BinOp) : Option A → Option A → SR
  | some (.one (.t (.int k a))), some (.one (.t (.int k' b))) =>
    match op with
    | .shl | .shr => .fact (ar.has k a ∧ ar.has k' b) (.req (ar.shok b) (.ret (.one (.t (.int k (ar.iop op k a b)))) []))
    | .quo | .rem => bif decide (k = k') then .fact (ar.has k a ∧ ar.has k b) (.req (ar.nz b) (.ret (.one (.t (.int k (ar.iop op k a b)))) [])) else .bad
    | .eql | .neq | .lss | .leq | .gtr | .geq => bif decide (k = k') then .ret (.one (.t (.bool (ar.icmp op a b)))) [] else .bad
    | .add | .sub | .mul | .and | .or | .xor | .andNot => bif decide (k = k') then .fact (ar.has k a ∧ ar.has k b) (.ret (.one (.t (.int k (ar.iop op k a b)))) []) else .bad
  | some (.one (.t (.bool a))), some (.one (.t (.bool b))) =>
    match op with
    | .eql => bif isBool tab t then .ret (.one (.t (.bool (ar.beq a b)))) [] else .bad
    | .neq => bif isBool tab t then .ret (.one (.t (.bool (ar.bnot (ar.beq a b))))) [] else .bad
    | _ => .bad
  | some (.one (.t (.str a))), some (.one (.t (.str b))) =>
    match op with
    | .eql => .ret (.one (.t (.bool (ar.seq a b)))) []
    | .neq => .ret (.one (.t (.bool (ar.bnot (ar.seq a b))))) []
    | .lss => .ret (.one (.t (.bool (ar.slt a b)))) []
    | .gtr => .ret (.one (.t (.bool (ar.slt b a)))) []
    | .leq => .ret (.one (.t (.bool (ar.bnot (ar.slt b a))))) []
    | .geq => .ret (.one (.t (.bool (ar.bnot (ar.slt a b))))) []
    | .add => .req (ar.sbig a ∧ ar.sbig b) (.ret (.one (.t (.str (ar.sapp a b)))) [])
    | _ => .bad
  | some (.one (.t (.sl es))), some (.one .nil) =>
    match op with
    | .eql => bif isSlice tab t then .amb (fun b => b = true → ar.emp es) fun b => .ret (.one (.t (.bool b))) [] else .bad
    | .neq => bif isSlice tab t then .amb (fun b => b = false → ar.emp es) fun b => .ret (.one (.t (.bool b))) [] else .bad
    | _ => .bad
  | _, _ => .bad

def sUn (ar : Ar) (op : UnOp) : Option A → SR
  | some (.one (.t (.bool b))) => match op with
    | .not => .ret (.one (.t (.bool (ar.bnot b)))) []
    | _ => .bad
  | some (.one (.t (.int k n))) => match op with
    | .neg => .fact (ar.has k n) (.ret (.one (.t (.int k (ar.neg k n)))) [])
    | .xor => .fact (ar.has k n) (.ret (.one (.t (.int k (ar.compl k n)))) [])
    | _ => .bad
  | _ => .bad

/-- Bytes that stood in the text: their row is marked. -/
def sMark (ar : Ar) (tab : TF) (e dst src : Nat) (lk : Nat → Option Ob) : V → SR
  | .row o g => match tab e with
    | some te => match te.kd with
      | .int .u8 => match lk o with
        | some (.row sz es cur tags false) => bif eqB dst src && (eqB g cur && eqB sz 1) then .req (ar.inb 0 es) (.ret (.one (.row o g)) [(o, .row sz es cur tags false)]) else .bad
        | _ => .bad
      | _ => .bad
    | none => .bad
  | _ => .bad
def sConv (ar : Ar) (tab : TF) (n dst src : Nat) (lk : Nat → Option Ob) (x : Option A) : SR :=
  match tab src, tab dst, x with
  | some ti, some ti', some (.one v) =>
    match ti.kd, ti'.kd with
    | .int _, .int k => match v with
      | .t (.int k0 a) => .fact (ar.has k0 a) (.ret (.one (.t (.int k (ar.conv k a)))) [])
      | _ => .bad
    | .str, .str => match v with
      | .t (.str s) => .ret (.one (.t (.str s))) []
      | _ => .bad
    | .str, .slice e => match v, tab e with
      | .t (.str s), some te => match te.kd with
        | .int .u8 => .req (ar.sbig s) (.new lk n (.row 1 (ar.ofStr s) n [n] false) (.one (.row n n)))
        | _ => .bad
      | _, _ => .bad
    | .slice e, .slice _ => sMark ar tab e dst src lk v
    | .slice e, .str => match v.tree lk, tab e with
      | some (.sl es), some te => match te.kd with
        | .int .u8 => .bytes es fun l => .ret (.one (.t (.str l))) []
        | _ => .bad
      | _, _ => .bad
    | _, _ => .bad
  | _, _, _ => .bad

def sLen (ar : Ar) (tab : TF) (t : Nat) (lk : Nat → Option Ob) : Option A → SR
  | some (.one (.t (.sl es))) => bif isSlice tab t then .fact (ar.big es) (.ret (.one (.t (.int .i64 (ar.len es)))) []) else .bad
  | some (.one .nil) => bif isSlice tab t then .ret (.one (.t (.int .i64 0))) [] else .bad
  | some (.one (.bsl _ n _)) => bif isSlice tab t then .ret (.one (.t (.int .i64 (Int.ofNat n)))) [] else .bad
  | some (.one (.row o g)) => match lk o with
    | some (.row _ es cur _ _) => bif isSlice tab t && eqB g cur then .fact (ar.big es) (.ret (.one (.t (.int .i64 (ar.len es)))) []) else .bad
    | _ => .bad
  | some (.one (.t (.str s))) => bif isStr tab t then .fact (ar.sbig2 s) (.ret (.one (.t (.int .i64 (ar.slen s)))) []) else .bad
  | _ => .bad

/-- What is appended, as elements; and which objects' elements they are. -/
def srcOf (ar : Ar) (lk : Nat → Option Ob) : Option A → Option (List (List T))
  | some (.one (.t (.str s))) => some (ar.ofStr s)
  | some (.one (.part o g i j)) => match lk o with
    | some (.row sz es cur _ fz) => bif eqB g cur && ltB sz 1000000 then some (ar.sub es i j) else none
    | _ => none
  | some (.one (.row o g)) => match lk o with
    | some (.row sz es cur _ fz) => bif eqB g cur && ltB sz 1000000 then some es else none
    | _ => none
  | some (.one v) => match v.tree lk with
    | some (.sl es) => some es
    | _ => none
  | _ => none

def sAppend (ar : Ar) (tab : TF) (t u n : Nat) (lk : Nat → Option Ob) (x y : Option A) : SR :=
  match sliceOf tab t with
  | some e => match tab e, srcOf ar lk y with
    | some te, some ys => bif (isSlice tab u || isStr tab u) && leB 1 te.size && te.zero.isSome then match x with
      | some (.one .nil) => .req (ar.room te.bytes ys ∧ ar.wid te.size ys) (.new lk n (.row te.size ys n [n] false) (.one (.row n n)))
      | some (.one (.row o g)) => match lk o with
        | some (.row sz es cur tags false) =>
          bif eqB g cur && eqB sz te.size && !(tags.contains n) then
            .req (ar.room te.bytes (ar.app es ys) ∧ ar.wid te.size ys) (.ret (.one (.row o n)) [(o, .row sz (ar.app es ys) n (n :: tags) false)]) else .bad
        | _ => .bad
      | some (.one (.part o g i j)) => match lk o with
        | some (.row sz es cur tags false) =>
          bif eqB g cur && eqB sz te.size && !(tags.contains n) && decide (i = 0) then
            .req (ar.room te.bytes (ar.app (ar.sub es 0 j) ys) ∧ ar.wid te.size ys) (.ret (.one (.row o n)) [(o, .row sz (ar.app (ar.sub es 0 j) ys) n (n :: tags) false)]) else .bad
        | _ => .bad
      | _ => .bad
      else .bad
    | _, _ => .bad
  | none => .bad

/-- One element more for a row that owns what it leads to: the element's own rows are taken. -/
def sAppendD (ar : Ar) (tab : TF) (t u n : Nat) (lk : Nat → Option Ob) (x y : Option A) : SR :=
  match sliceOf tab t, y with
  | some e, some (.one (.bsl o k sz)) => match tab e, lk o with
    | some te, some (.box cs _) => match absC lk cs with
      | some a => bif eqB k 1 && (eqB te.size sz && (eqB cs.length te.size && (isSlice tab u && (leB 1 te.size && (te.zero.isSome && (newTag lk n a.cs && !(eqB n 7))))))) then (match x with
        | some (.one .nil) => (match lk n with
          | none => bif nodupB a.cs then .req (ar.room te.bytes [a.ts]) (flatsR ar a.fl (.ret (.one (.row n n)) (tomb lk n a.cs ++ [(n, .row (te.size + 1000000) [a.ts] n [n, 0] false)]))) else .bad
          | some _ => .bad)
        | some (.one (.row o2 g)) => (match lk o2 with
          | some (.row sx es cur tags false) => bif eqB g cur && (eqB sx (te.size + 1000000) && (!(memB n tags) && nodupB (o2 :: a.cs))) then
              .req (ar.room te.bytes (ar.app es [a.ts])) (flatsR ar a.fl (.ret (.one (.row o2 n)) (tomb lk n a.cs ++ [(o2, .row sx (ar.app es [a.ts]) n (n :: tags) false)]))) else .bad
          | _ => .bad)
        | _ => .bad) else .bad
      | none => .bad
    | _, _ => .bad
  | _, _ => .bad

def sMake (ar : Ar) (tab : TF) (t n : Nat) (lk : Nat → Option Ob) : Option A → Option A → SR
  | some (.one (.t (.int .i64 l))), some (.one (.t (.int .i64 c))) => match tab t with
    | some ti => match ti.kd with
      | .slice e => match tab e with
        | some te => match te.zero with
          | some z => match treesC z with
            | some zt => bif leB 1 te.size then .req (l = c ∧ ar.mkroom te.bytes l) (.new lk n (.row te.size (ar.rep l zt) n [n] false) (.one (.row n n))) else .bad
            | none => .bad
          | none => .bad
        | none => .bad
      | _ => .bad
    | none => .bad
  | _, _ => .bad

/-- A row that owns what it leads to, of so many elements that are zero. -/
def sMakeD (ar : Ar) (tab : TF) (t n : Nat) (lk : Nat → Option Ob) : Option A → Option A → SR
  | some (.one (.t (.int .i64 l))), some (.one (.t (.int .i64 c))) => match tab t with
    | some ti => match ti.kd with
      | .slice e => match tab e with
        | some te => match te.zero with
          | some z => match treesC z with
            | some zt => bif leB 1 te.size then .req (l = c ∧ ar.mkroom te.bytes l) (.new lk n (.row (te.size + 1000000) (ar.rep l zt) n [n] false) (.one (.row n n))) else .bad
            | none => .bad
          | none => .bad
        | none => .bad
      | _ => .bad
    | none => .bad
  | _, _ => .bad

def capsOf (ρ : Operand → Option A) : List Operand → Option (List Cap)
  | [] => some []
  | x :: r => match ρ x, capsOf ρ r with
    | some (.one (.ptr o off)), some l => some (.ptr o off :: l)
    | some (.one (.t c)), some l => some (.t c :: l)
    | _, _ => none
def firstsOf (ρ : Operand → Option A) : List Operand → Option (List (List T))
  | [] => some []
  | x :: r => match ρ x, firstsOf ρ r with
    | some (.agg vs), some l => match treesC vs with
      | some c => some (c :: l)
      | none => none
    | _, _ => none
def argsOf (ρ : Operand → Option A) : List Operand → Option (List A)
  | [] => some []
  | x :: r => match ρ x, argsOf ρ r with
    | some a, some l => some (a :: l)
    | _, _ => none
/-- Places that hold nil are given rows of their own, empty as yet: (place, size) each; the names from a number on. -/
def virtL : Nat → List (Nat × Nat) → List V → List V × Obs
  | _, [], cs => (cs, [])
  | n, (j, sz) :: r, cs => match cs[j]? with
    | some .nil => match virtL (n + 1) r (setAt cs j [.row n 0]) with
      | (cs', o) => (cs', (n, .row sz [] 0 [0] false) :: o)
    | _ => virtL (n + 1) r cs
def virtA (n : Nat) (vl : List (Nat × Nat)) : A → A × Obs
  | .one v => match virtL n vl [v] with
    | ([v'], o) => (.one v', o)
    | _ => (.one v, [])
  | .agg vs => match virtL n vl vs with
    | (vs', o) => (.agg vs', o)
  | .tup l => (.tup l, [])
structure Pre where
  args : List A
  vo : Obs
  fr : List Nat
  own : List Nat
/-- A call's arguments: those that go as trees, those that go as they are. -/
def preArgs (lk : Nat → Option Ob) : Nat → List (Option (List (Nat × Nat))) → List A → Option Pre
  | _, _, [] => some ⟨[], [], [], []⟩
  | n, some vl :: ms, a :: as => match virtA n vl a, preArgs lk (n + 2) ms as with
    | (a', o), some p => some ⟨a' :: p.args, o ++ p.vo, p.fr, a'.refs ++ p.own⟩
    | _, none => none
  | n, none :: ms, a :: as => match a.tree lk, preArgs lk n ms as with
    | some t, some p => some ⟨t :: p.args, p.vo, a.refs ++ p.fr, p.own⟩
    | _, _ => none
  | n, [], a :: as => match a.tree lk, preArgs lk n [] as with
    | some t, some p => some ⟨t :: p.args, p.vo, a.refs ++ p.fr, p.own⟩
    | _, _ => none
/-- Names of a temporary's own. -/
def slotB (d : Nat) : List Nat → Bool
  | [] => true
  | n :: r => eqB (n / 32) (d + 1) && slotB d r
def freshB (lk : Nat → Option Ob) : List Nat → Bool
  | [] => true
  | n :: r => (match lk n with | none => true | some _ => false) && freshB lk r
def posB : Obs → Bool
  | [] => true
  | (_, .row sz _ _ _ _) :: r => leB 1 (wd sz) && posB r
  | _ :: _ => false
def disjB : List Nat → List Nat → Bool
  | [], _ => true
  | a :: l, m => !(memB a m) && disjB l m
/-- Names that are not below a bound. -/
def above (m : Nat) : List Nat → List Nat
  | [] => []
  | n :: r => match ltB n m with
    | true => above m r
    | false => n :: above m r
def oldTags (lk : Nat → Option Ob) : Obs → Obs
  | [] => []
  | (n, .row sz es cur tags fz) :: r => (match lk n with
    | some (.row _ _ _ old _) => (n, .row sz es cur (tags ++ old) fz)
    | _ => (n, .row sz es cur tags fz)) :: oldTags lk r
  | x :: r => x :: oldTags lk r
def flatV : V → Bool
  | .t c => flatT c
  | .row _ _ => true
  | .ptr _ _ => true
  | .nil => true
  | _ => false
def flatVs : List V → Bool
  | [] => true
  | v :: l => flatV v && flatVs l
def flatA : A → Bool
  | .one v => flatV v
  | .agg vs => flatVs vs
  | .tup l => go l
where go : List A → Bool
  | [] => true
  | a :: l => flatA a && go l
/-- Objects that are not frozen and hold no memory but what is named: what must be shown of the rows. -/
def flatO (ar : Ar) : Obs → SR → SR
  | [], k => k
  | (_, .box cs false) :: r, k => bif flatVs cs then flatO ar r k else .bad
  | (_, .row sz es _ _ false) :: r, k => (match cls sz false with
    | .s => .req (ar.flat es) (flatO ar r k)
    | _ => flatO ar r k)
  | _ :: _, _ => .bad
/-- Whether a function takes an own row as the caller's own, to work in its place: told by a place that there is not. -/
def inpI : List (Option (List (Nat × Nat))) → Bool
  | [] => false
  | some l :: r => bif has1 l then true else inpI r
  | none :: r => inpI r
where has1 : List (Nat × Nat) → Bool
  | [] => false
  | (a, _) :: r => bif eqB a 1000000 then true else has1 r
/-- What comes back with the generation that it was handed in with has its owner's own. -/
def gB (lk : Nat → Option Ob) (ns : List Nat) (T : Nat) : Nat → Nat → Nat := fun k c =>
  bif eqB c 7 then (match ns[k]? with
    | some n => match lk n with
      | some (.row _ _ cur _ _) => cur
      | _ => T
    | none => T) else T
def sCall (ar : Ar) (md : MF) (lk : Nat → Option Ob) (d f : Nat) (as : List A) : SR :=
  match preArgs lk (nm d 16) (md f).own as with
  | some p =>
    bif slotB d (keys p.vo) && (nodupB (keys p.vo) && freshB lk (keys p.vo) && posB p.vo) then
      callW (p.vo ++ bif (md f).bor then [] else frz lk p.fr) p
    else .bad
  | none => .bad
where
  callW (wr : Obs) (p : Pre) : SR :=
    callN wr p (reach (updO lk wr) 2 (nub p.own []))
  callN (wr : Obs) (p : Pre) (ns : List Nat) : SR :=
    bif (bif (md f).bor then disjB p.fr ns else true) && nodupB ns && newTag (updO lk wr) (nm d 31) ns then
      .callG f (A.ren.go (numFrom 0 ns) (gAll (bif inpI (md f).own then 7 else 0)) (updO lk wr) p.args) (renO (numFrom 0 ns) (gAll (bif inpI (md f).own then 7 else 0)) (updO lk wr) (numFrom 0 ns)) fun r ob => back wr ns r ob (above ns.length (keys ob))
    else .bad
  back (wr : Obs) (ns : List Nat) (r : A) (ob : Obs) (l : List Nat) : SR :=
    backR wr r ob (numTo 0 ns ++ numFrom (nm d 0) l) (gB (updO lk wr) ns (nm d 31)) l
  backR (wr : Obs) (r : A) (ob : Obs) (ρ : List (Nat × Nat)) (γ : Nat → Nat → Nat) (l : List Nat) : SR :=
    bif slotB d (snds (numFrom (nm d 0) l)) && (okRen ρ && freshB (updO lk wr) (snds (numFrom (nm d 0) l))) then
      (bif (md f).bor then flatO ar (renO ρ γ (look ob) ρ) (bif flatA (r.ren ρ γ (look ob)) then
        .ret (r.ren ρ γ (look ob)) (wr ++ oldTags (updO lk wr) (renO ρ γ (look ob) ρ)) else .bad)
      else .ret (r.ren ρ γ (look ob)) (wr ++ oldTags (updO lk wr) (renO ρ γ (look ob) ρ)))
    else .bad

def hasFst (d : Nat) : List (Nat × Nat) → Bool
  | [] => false
  | (a, _) :: r => bif eqB d a then true else hasFst d r
/-- Values that hold no memory. -/
def flat1 : List A → Bool
  | [] => true
  | .one (.t c) :: r => flatT c && flat1 r
  | _ :: _ => false
/-- A call that is handed a slice within an own row, to work in its place, and what holds no memory. -/
def sCallSub (ar : Ar) (md : MF) (lk : Nat → Option Ob) (f : Nat) : List A → SR
  | .one (.sub o g i j) :: r => match (md f).own, lk o with
    | some [(_, w2)] :: _, some (.row sz es cur tags false) => bif isP sz false && (isP w2 false && (leB 1 (wd w2) && (eqB g cur && flat1 r))) then
        .get es i fun e => (match e[j]? with
          | some (.sl l) => .req (ar.wid (wd w2) l) (.callG f (.one (.row 0 7) :: r) [(0, .row w2 l 7 [7] false)] fun v ob => (match v, ob with
            | .one (.t c), [(0, .row w3 l' 7 _ false)] => bif eqB w3 w2 && flatT c then .ret (.one (.t c)) [(o, .row sz (ar.setc es i j [.sl l']) cur tags false)] else .bad
            | _, _ => .bad))
          | _ => .bad)
      else .bad
    | _, _ => .bad
  | _ => .bad
def hasSub : List A → Bool
  | .one (.sub _ _ _ _) :: _ => true
  | _ => false
/-- The temporaries whose slices own what they lead to: told as the second argument of function 0. -/
def markD (md : MF) (d : Nat) : Bool := match (md 0).own with
  | _ :: some l :: _ => hasFst d l
  | _ => false
def tV : List T → List V
  | [] => []
  | t :: l => .t t :: tV l
def firstA : List (List T) → List A
  | [] => []
  | cs :: r => .agg (tV cs) :: firstA r
def capT : List T → List A
  | [] => []
  | c :: r => .one (.t c) :: capT r
def capA : List Cap → List A
  | [] => []
  | .t c :: r => .one (.t c) :: capA r
  | .ptr o off :: r => .one (.ptr o off) :: capA r

/-- The cells of a slice's literal, in order, none missing. -/
def cellsL (sz : Nat) : Nat → List (Nat × Option A) → Option (List V)
  | _, [] => some []
  | k, (i, some a) :: r => match a.cells, cellsL sz (k + 1) r with
    | some vs, some ls => bif eqB i k && eqB vs.length sz then some (vs ++ ls) else none
    | _, _ => none
  | _, (_, none) :: _ => none
/-- The places of an array's elements. -/
def arrP (m e : Nat) : List (Nat × Nat) := (List.range m).map fun j => (j, e)
def sBuild (tab : TF) (t : Nat) (ps : List (Nat × Option A)) : SR :=
  match tab t with
  | some ti => match ti.kd, ti.zero with
    | .struct fs, some z => match fillS tab fs z ps with
      | some cs => .ret (.agg cs) []
      | none => .bad
    | .array m e, some z => match tab e with
      | some te => match cellsL 1 0 ps with
          | some cs => bif eqB te.size 1 && (eqB cs.length z.length && eqB cs.length m) then .ret (.agg cs) [] else .bad
          | none => .bad
      | none => .bad
    | _, _ => .bad
  | none => .bad
def sBuildBox (tab : TF) (te : TI) (n len : Nat) (lk : Nat → Option Ob) (ps : List (Nat × Option A)) : SR :=
  match cellsL te.size 0 ps with
  | some cs => bif eqB cs.length (len * te.size) && leB 1 te.size && leB (len * te.size) 1000000 && te.zero.isSome && leB 1 len && noAny cs then .new lk n (.box cs false) (.one (.bsl n len te.size)) else .bad
  | none => .bad
def sBuildSlice (tab : TF) (t n len : Nat) (lk : Nat → Option Ob) (ps : List (Nat × Option A)) : SR :=
  match sliceOf tab t with
  | some e => match tab e with
    | some te => match elemsOf lk te.size 0 ps, lk n with
      | some es, none => bif eqB es.length len && leB 1 te.size && leB (len * te.size) 1000000 && te.zero.isSome then
          .ret (.one (.row n n)) ((n, .row te.size es n [n] false) :: frz lk (refsOf ps)) else .bad
      | none, none => sBuildBox tab te n len lk ps
      | _, _ => .bad
    | none => .bad
  | none => .bad

/-- A slice's literal as a variable of its own. -/
def sBuildSliceB (tab : TF) (t n len : Nat) (lk : Nat → Option Ob) (ps : List (Nat × Option A)) : SR :=
  match sliceOf tab t with
  | some e => match tab e with
    | some te => sBuildBox tab te n len lk ps
    | none => .bad
  | none => .bad

/-- The temporaries of the function at hand whose slices are taken as parts of own rows, or literals as variables of their own: told as the arguments of function 0, which nobody calls. -/
def markB (md : MF) (d : Nat) : Bool := match (md 0).own with
  | some l :: _ => hasFst d l
  | _ => false

/-- Nothing but zeros of a kind. -/
def zerosV (k : IntKind) : List V → Bool
  | [] => true
  | .t (.int k' n) :: r => bif decide (k' = k) && decide (n = 0) then zerosV k r else false
  | _ :: _ => false
/-- A variable that is an array of numbers, as a row of its own; its place is that of its first element. -/
def sAllocArr (ar : Ar) (tab : TF) (t n : Nat) (lk : Nat → Option Ob) : SR :=
  match tab t with
  | some ti => match ti.kd, ti.zero with
    | .array m e, some z => match tab e with
      | some te => match te.kd with
        | .int k => bif eqB te.size 1 && (leB 1 m && (leB m 1000000 && (eqB z.length m && zerosV k z))) then .new lk n (.row 1 (ar.rep (Int.ofNat m) [.int k 0]) n [n] false) (.one (.elt n n 0 0)) else .bad
        | _ => .bad
      | none => .bad
    | _, _ => .bad
  | none => .bad

def stepE (ar : Ar) (tab : TF) (md : MF) (d : Nat) (op : Op) (_ty : Nat) (ρ : Operand → Option A) (lk : Nat → Option Ob) : SR :=
  match op with
  | .move x | .assign x => .ofOpt (ρ x)
  | .pick c x y => match ρ c with
    | some (.one (.t (.bool b))) => .br b (.ofOpt (ρ x)) (.ofOpt (ρ y))
    | _ => .bad
  | .alloc t => match markB md d with
    | false => match tab t with
      | some ti => match ti.zero with
        | some z => .new lk (nm d 0) (.box z false) (.one (.ptr (nm d 0) 0))
        | none => .bad
      | none => .bad
    | true => sAllocArr ar tab t (nm d 0) lk
  | .box t x => match tab t, ρ x with
    | some ti, some a => match a.cells with
      | some vs => bif eqB vs.length ti.size then .new lk (nm d 0) (.box vs false) (.one (.ptr (nm d 0) 0)) else .bad
      | none => .bad
    | _, _ => .bad
  | .build t parts => sBuild tab t (parts.toList.map fun p => (p.1, ρ p.2))
  | .buildSlice t len parts => match markB md d with
    | false => sBuildSlice tab t (nm d 0) len lk (parts.toList.map fun p => (p.1, ρ p.2))
    | true => sBuildSliceB tab t (nm d 0) len lk (parts.toList.map fun p => (p.1, ρ p.2))
  | .load t a => sLoad tab t lk (ρ a)
  | .store t a x => sStoreD ar tab t (nm d 0) lk (ρ a) (ρ x)
  | .nilCheck x => match ρ x with
    | some (.one (.ptr o off)) => .ret (.one (.ptr o off)) []
    | some (.one (.elt o g i j)) => match lk o with
      | some (.row _ _ cur _ _) => bif eqB g cur then .ret (.one (.elt o g i j)) [] else .bad
      | _ => .bad
    | some (.one (.t (.pt cs off))) => .ret (.one (.t (.pt cs off))) []
    | _ => .bad
  | .binOp op t x y _ => sBin ar tab t op (ρ x) (ρ y)
  | .unOp op _ x => sUn ar op (ρ x)
  | .convert src dst x => sConv ar tab (nm d 0) dst src lk (ρ x)
  | .makeFunc fn first caps => match firstsOf ρ first.toList, capsOf ρ caps.toList with
    | some fs, some cs => .ret (.one (.fn fn fs cs)) []
    | _, _ => .bad
  | .makeSlice t l c => match markD md d with
    | false => sMake ar tab t (nm d 0) lk (ρ l) (ρ c)
    | true => sMakeD ar tab t (nm d 0) lk (ρ l) (ρ c)
  | .slice t x lo hi mx => match markB md d with
    | false => sSlice ar tab t lk ρ lo hi mx (ρ x)
    | true => sPart ar tab t lk ρ lo hi mx (ρ x)
  | .fieldAddr t x f => sFieldAddr tab t f lk (ρ x)
  | .field t x f => sField tab t f (ρ x)
  | .indexAddr t x i => sIndexAddrD ar tab t lk (ρ x) (ρ i)
  | .index t x i => sIndex ar tab t (ρ x) (ρ i)
  | .extract x i => match ρ x with
    | some (.tup l) => .ofOpt l[i]?
    | _ => .bad
  | .call c => match c.callee with
    | .builtin .len => match c.args.toList, c.argTypes.toList with
      | [x], [t] => sLen ar tab t lk (ρ x)
      | _, _ => .bad
    | .builtin .append => match c.args.toList, c.argTypes.toList with
      | [x, y], [t, u] => match markD md d with
        | false => sAppend ar tab t u (nm d 0) lk (ρ x) (ρ y)
        | true => sAppendD ar tab t u (nm d 0) lk (ρ x) (ρ y)
      | _, _ => .bad
    | .builtin .min => match c.args.toList with
      | [x, y] => match ρ x, ρ y with
        | some (.one (.t (.int .i64 a))), some (.one (.t (.int .i64 b))) => .fact (ar.has .i64 a ∧ ar.has .i64 b) (.ret (.one (.t (.int .i64 (ar.imin a b)))) [])
        | _, _ => .bad
      | _ => .bad
    | .builtin .max => match c.args.toList with
      | [x, y] => match ρ x, ρ y with
        | some (.one (.t (.int .i64 a))), some (.one (.t (.int .i64 b))) => .fact (ar.has .i64 a ∧ ar.has .i64 b) (.ret (.one (.t (.int .i64 (ar.imax a b)))) [])
        | _, _ => .bad
      | _ => .bad
    | .value f => match ρ f with
      | some (.one (.t (.fn (.func g) first caps))) => match argsOf ρ c.args.toList with
        | some l => (match hasSub l with
          | false => sCall ar md lk d g (firstA first ++ (l ++ capT caps))
          | true => (match first, caps with
            | [], [] => sCallSub ar md lk g l
            | _, _ => .bad))
        | none => .bad
      | some (.one (.fn (.func g) first caps)) => match argsOf ρ c.args.toList with
        | some l => sCall ar md lk d g (firstA first ++ (l ++ capA caps))
        | none => .bad
      | _ => .bad
    | _ => .bad
  | _ => .bad

end Go.TL

/- TlC -/
namespace Go.TL
open Go

/-- The k-th element, at an index that is one. -/
inductive GetP (ar : Ar) (es : List (List T)) (i : Int) (K : List T → Prop) : Prop where
  | mk (h : ar.inb i es) (k : K (ar.get es i))
/-- A list of bytes. -/
def encB (l : List UInt8) : List (List T) := l.map fun b => [.int .u8 b.toNat]
inductive BytesP (es : List (List T)) (K : List UInt8 → Prop) : Prop where
  | mk (l : List UInt8) (h : es = encB l) (k : K l)
/-- A test of closed data, not run by the evaluator. -/
inductive ChkP (c : Unit → Bool) (K : Prop) : Prop where
  | mk (h : c () = true) (k : K)

section
variable (ar : Ar) (cl : Nat → List A → Obs → (A → Obs → Prop) → Prop)

/-- A call: the contract's place. -/
inductive CallP (cl : Nat → List A → Obs → (A → Obs → Prop) → Prop) (f : Nat) (args : List A) (ob : Obs) (K : A → Obs → Prop) : Prop where
  | mk (h : cl f args ob K)
/-- A call whose result is one. -/
inductive CallD (cl : Nat → List A → Obs → (A → Obs → Prop) → Prop) (f : Nat) (args : List A) (ob : Obs) (K : A → Obs → Prop) : Prop where
  | mk (r : A) (ob' : Obs) (h : cl f args ob fun x y => x = r ∧ y = ob') (k : K r ob')

def SR.holds : SR → (A → Obs → Prop) → Prop
  | .ret a wr, K => K a wr
  | .req c k, K => c ∧ k.holds K
  | .fact c k, K => c → k.holds K
  | .amb c k, K => ∀ b, c b → (k b).holds K
  | .br b t f, K => match b with
    | true => t.holds K
    | false => f.holds K
  | .get es i k, K => GetP ar es i fun e => (k e).holds K
  | .bytes es k, K => BytesP es fun l => (k l).holds K
  | .callG f args ob k, K => CallP cl f args ob fun r ob' => (k r ob').holds K
  | .bad, _ => False
/-- One outcome, whatever comes ahead: what is known behind it is handed on. -/
def SR.det : SR → Prop → (A → Obs → Prop → Prop) → Prop
  | .ret a wr, F, K => K a wr F
  | .req c k, F, K => c ∧ k.det F K
  | .fact c k, F, K => k.det (F ∧ c) K
  | .amb _ _, _, _ => False
  | .br b t f, F, K => match b with
    | true => t.det F K
    | false => f.det F K
  | .get es i k, F, K => GetP ar es i fun e => (k e).det F K
  | .bytes es k, F, K => BytesP es fun l => (k l).det F K
  | .callG f args ob k, F, K => CallD cl f args ob fun r ob' => (k r ob').det F K
  | .bad, _, _ => False

/-- The objects that an operation's operands lead to. -/
def tmpsOf : List Operand → List Nat
  | [] => []
  | .tmp t :: r => t :: tmpsOf r
  | _ :: r => tmpsOf r
def trefsOf (tm : Nat → Option A) : List Nat → List Nat
  | [] => []
  | t :: r => match tm t with
    | some a => a.refs ++ trefsOf tm r
    | none => trefsOf tm r
def opRefs (tm : Nat → Option A) (lk : Nat → Option Ob) (xs : List Operand) : List Nat := reach lk 4 (nub (trefsOf tm (tmpsOf xs)) [])
/-- Operations that look at no object. -/
def noLk : Op → Bool
  | .move _ => true
  | .assign _ => true
  | .pick _ _ _ => true
  | .build _ _ => true
  | .extract _ _ => true
  | .field _ _ _ => true
  | .binOp _ _ _ _ _ => true
  | .unOp _ _ _ => true
  | _ => false
def rdOf (tm : Nat → Option A) (lk : Nat → Option Ob) (op : Op) : List Nat := match noLk op with
  | true => []
  | false => opRefs tm lk op.operands.toList
/-- No object of the list leads out of it. -/
def subB : List Nat → List Nat → Bool
  | [], _ => true
  | a :: l, m => memB a m && subB l m
def closedB (lk : Nat → Option Ob) (l : List Nat) : Bool := subB (oref lk l) l

structure Entry where
  i : Nat
  dst : Option Nat
  rt : List Nat
  rd : List Nat
  wr : List Nat
  cl : Bool

def dstOf : Option Nat → Nat
  | some d => d
  | none => 100000
/-- None of the names is one that the temporary's own operation gives. -/
def offB (d : Nat) : List Nat → Bool
  | [] => true
  | n :: r => !(eqB (n / 32) (d + 1)) && offB d r
/-- Two operations that may come up in either order. -/
def apartB (x y : Entry) : Bool :=
  (match x.dst with | some d => !(memB d y.rt) | none => true) && offB (dstOf x.dst) y.wr &&
  (match y.dst with | some d => !(memB d x.rt) | none => true) && offB (dstOf y.dst) x.wr &&
  (match x.dst, y.dst with | some d, some e => !(eqB d e) | _, _ => true) &&
  disjB x.wr y.rd && disjB y.wr x.rd && disjB x.wr y.wr
/-- What comes ahead of each operation, through any number of edges that bind. -/
def aheadOf (acc : List (List Nat)) : List Edge → List Nat
  | [] => []
  | e :: r => bif Region.binds .any e then e.on :: (acc.getD e.on [] ++ aheadOf acc r) else aheadOf acc r
def aheadGo : List (List Nat) → List Oper → List (List Nat)
  | acc, [] => acc
  | acc, o :: r => aheadGo (acc ++ [nub (aheadOf acc o.after.toList) []]) r
def aheadL (ops : List Oper) : List (List Nat) := aheadGo [] ops
def edgesBack (ops : List Oper) : Bool :=
  (List.range ops.length).all fun i => match ops[i]? with
    | some o => o.after.toList.all fun e => !Region.binds .any e || decide (e.on < i)
    | none => true
def checkTr (ops : List Oper) (tr : List Entry) : Bool :=
  edgesBack ops && (tr.all fun y => y.cl) &&
  let ah := aheadL ops
  tr.all fun y => tr.all fun x => !(decide (x.i < y.i)) || memB x.i (ah.getD y.i []) || apartB x y

/-- An operation, but for its place in the text and its edges; the guard names the temporary that it asks. -/
structure KOp where
  dst : Option Nat
  op : Op
  ty : Nat
  gd : Option (Nat × Bool)
def guardT (ops : List Oper) : Option (Nat × Bool) → Option (Nat × Bool)
  | none => none
  | some (g, want) => match ops[g]? with
    | some o => match o.dst with
      | some t => some (t, want)
      | none => some (100000, want)
    | none => some (100000, want)
def kop (all : List Oper) (o : Oper) : KOp := ⟨o.dst, o.op, o.type, guardT all o.guard⟩
def kops (all : List Oper) : List Oper → List KOp
  | [] => []
  | o :: r => kop all o :: kops all r
def setT (tm : Tms) (d : Option Nat) (a : A) : Tms := match d with | some d => put tm d a | none => tm

/-- A region in the order of its text. -/
def opsP (tab : TF) (md : MF) : List KOp → St → (St → Prop) → Prop
  | [], st, K => K st
  | ⟨dst, op, ty, none⟩ :: r, st, K =>
    (stepE ar tab md (dstOf dst) op ty (ev (look st.tm)) (look st.ob)).holds ar cl fun a wr => opsP tab md r ⟨setT st.tm dst a, puts st.ob wr⟩ K
  | ⟨dst, op, ty, some (t, want)⟩ :: r, st, K =>
    match look st.tm t with
    | some (.one (.t (.bool b))) =>
      match b with
      | true => match want with
        | true => (stepE ar tab md (dstOf dst) op ty (ev (look (put st.tm t (.one (.t (.bool true)))))) (look st.ob)).holds ar cl fun a wr => opsP tab md r ⟨setT (put st.tm t (.one (.t (.bool true)))) dst a, puts st.ob wr⟩ K
        | false => opsP tab md r ⟨setT (put st.tm t (.one (.t (.bool true)))) dst (.tup []), st.ob⟩ K
      | false => match want with
        | false => (stepE ar tab md (dstOf dst) op ty (ev (look (put st.tm t (.one (.t (.bool false)))))) (look st.ob)).holds ar cl fun a wr => opsP tab md r ⟨setT (put st.tm t (.one (.t (.bool false)))) dst a, puts st.ob wr⟩ K
        | true => opsP tab md r ⟨setT (put st.tm t (.one (.t (.bool false)))) dst (.tup []), st.ob⟩ K
    | some (.tup []) => opsP tab md r ⟨setT st.tm dst (.tup []), st.ob⟩ K
    | _ => False

/-- A temporary's own objects lead to what is named. -/
def slotCl (d : Nat) (rd : List Nat) : Obs → Bool
  | [] => true
  | (n, .box cs _) :: r => (!(eqB (n / 32) (d + 1)) || subB (vrefs cs) rd) && slotCl d rd r
  | _ :: r => slotCl d rd r
/-- What an operation looks at and turns. -/
def entry (i : Nat) (dst : Option Nat) (gt : List Nat) (op : Op) (st : St) (wr : Obs) : Entry :=
  match rdOf (look st.tm) (look st.ob) op with
  | rd => ⟨i, dst, gt ++ tmpsOf op.operands.toList, rd, keys wr, closedB (look st.ob) rd && slotCl (dstOf dst) rd st.ob⟩
/-- A region whose order is drawn: its operations in the order of the text, each with one outcome; at the end the test that any other order comes to the same. -/
def drawnP (tab : TF) (md : MF) (all : List Oper) : Nat → List KOp → St → List Entry → Prop → (St → Prop) → Prop
  | _, [], st, tr, F, K => ChkP (fun _ => checkTr all tr) (F → K st)
  | i, ⟨dst, op, ty, none⟩ :: r, st, tr, F, K =>
    (stepE ar tab md (dstOf dst) op ty (ev (look st.tm)) (look st.ob)).det ar cl F fun a wr F =>
        drawnP tab md all (i + 1) r ⟨setT st.tm dst a, puts st.ob wr⟩ (entry i dst [] op st wr :: tr) F K
  | i, ⟨dst, op, ty, some (t, want)⟩ :: r, st, tr, F, K =>
    match look st.tm t with
    | some (.one (.t (.bool b))) =>
      match b with
      | true => match want with
        | true => (stepE ar tab md (dstOf dst) op ty (ev (look (put st.tm t (.one (.t (.bool true)))))) (look st.ob)).det ar cl F fun a wr F =>
            drawnP tab md all (i + 1) r ⟨setT (put st.tm t (.one (.t (.bool true)))) dst a, puts st.ob wr⟩ (entry i dst [t] op st wr :: tr) F K
        | false => drawnP tab md all (i + 1) r ⟨setT (put st.tm t (.one (.t (.bool true)))) dst (.tup []), st.ob⟩ (⟨i, dst, [t], [], [], true⟩ :: tr) F K
      | false => match want with
        | false => (stepE ar tab md (dstOf dst) op ty (ev (look (put st.tm t (.one (.t (.bool false)))))) (look st.ob)).det ar cl F fun a wr F =>
            drawnP tab md all (i + 1) r ⟨setT (put st.tm t (.one (.t (.bool false)))) dst a, puts st.ob wr⟩ (entry i dst [t] op st wr :: tr) F K
        | true => drawnP tab md all (i + 1) r ⟨setT (put st.tm t (.one (.t (.bool false)))) dst (.tup []), st.ob⟩ (⟨i, dst, [t], [], [], true⟩ :: tr) F K
    | some (.tup []) => drawnP tab md all (i + 1) r ⟨setT st.tm dst (.tup []), st.ob⟩ (⟨i, dst, [t], [], [], true⟩ :: tr) F K
    | _ => False

/-- Code, but for what the evaluator does not look at. -/
inductive Kode where
  | skip
  | ops (l : List KOp)
  | drawn (all : List Oper) (l : List KOp)
  | seq (a b : Kode)
  | cond (c : Nat) (x y : Kode)
  | block (id : Nat) (c : Kode)
  | loop (c : Kode)
  | exit (id : Nat)
  | ret
  | bad
def kode : Code → Kode
  | .skip => .skip
  | .region _ ops draw => match draw with
    | false => .ops (kops ops.toList ops.toList)
    | true => .drawn ops.toList (kops ops.toList ops.toList)
  | .seq a b => .seq (kode a) (kode b)
  | .cond (.tmp c) x y => .cond c (kode x) (kode y)
  | .block id c => .block id (kode c)
  | .loop c => .loop (kode c)
  | .exit i => .exit i
  | .ret => .ret
  | _ => .bad

/-! What is kept of a state. -/
def keepT (ks : List Nat) : Tms → Tms
  | [] => []
  | (i, a) :: r => match memB i ks with
    | true => (i, a) :: keepT ks r
    | false => keepT ks r
def trefs : Tms → List Nat
  | [] => []
  | (_, a) :: r => a.refs ++ trefs r
/-- The temporaries of the list, and the objects that they lead to. -/
def clean (m : Nat) (ks : List Nat) (st : St) : Option St :=
  renS m (idR (reach (look st.ob) 2 (nub (trefs (keepT ks st.tm)) (upto m)))) ⟨keepT ks st.tm, st.ob⟩

/-- What is done at a loop's head to bring a state to its usual form: a place that holds nil is given a row of its own, or a value is read as a tree. -/
inductive Vt where
  | tmp (t j sz n : Nat)
  | cell (t j sz n : Nat)
  | tree (t : Nat)
def virt1 (st : St) : Vt → Option St
  | .tmp t j sz n => match look st.tm t with
    | some a => match virtA n [(j, sz)] a with
      | (a', vo) => bif nodupB (keys vo) && freshB (look st.ob) (keys vo) && posB vo then some ⟨put st.tm t a', puts st.ob vo⟩ else none
    | none => none
  | .cell t j sz n => match look st.tm t with
    | some (.one (.ptr o _)) => match look st.ob o with
      | some (.box cs false) => match virtL n [(j, sz)] cs with
        | (cs', vo) => bif nodupB (keys vo) && freshB (look st.ob) (keys vo) && posB vo && !(memB o (keys vo)) then some ⟨st.tm, put (puts st.ob vo) o (.box cs' false)⟩ else none
      | _ => none
    | _ => none
  | .tree t => match look st.tm t with
    | some a => match a.tree (look st.ob) with
      | some a' => some ⟨put st.tm t a', puts st.ob (frz (look st.ob) a.refs)⟩
      | none => none
    | none => none
def virt : List Vt → St → Option St
  | [], st => some st
  | v :: l, st => match virt1 st v with
    | some st' => virt l st'
    | none => none
def canon (m : Nat) (ns : List Nat) : List (Nat × Nat) := idR (upto m) ++ numFrom 16 (above m ns)
def nrm (m : Nat) (ks : List Nat) (vl : List Vt) (st : St) : Option St :=
  match virt vl st with
  | some st => renS m (canon m (reach (look st.ob) 2 (nub (trefs (keepT ks st.tm)) (upto m)))) ⟨keepT ks st.tm, st.ob⟩
  | none => none

inductive BackP {X : Type} (m : Nat) (ks : List Nat) (vl : List Vt) (S : X → St) (φ : X → Prop) (μ : X → Nat) (x : X) (s : St) : Prop where
  | mk (x' : X) (h : nrm m ks vl s = some (S x')) (p : φ x') (lt : μ x' < μ x)
inductive LoopP (m : Nat) (body : St → (Exit → St → Prop) → Prop) (st : St) (K : Exit → St → Prop) : Prop where
  | mk (X : Type) (ks : List Nat) (vl : List Vt) (S : X → St) (φ : X → Prop) (μ : X → Nat) (x0 : X) (h0 : nrm m ks vl st = some (S x0)) (h1 : φ x0)
      (step : ∀ x, φ x → body (S x) fun e s' => match e with
        | .normal => BackP m ks vl S φ μ x s'
        | .exit i => K (.exit i) s'
        | .ret => K .ret s'
        | _ => False)

def cleanP (m : Nat) (vars : List Nat) (st : St) (K : St → Prop) : Prop := match clean m vars st with
  | some st' => K st'
  | none => False
def codeP (tab : TF) (md : MF) (m : Nat) (vars : List Nat) : Kode → St → (Exit → St → Prop) → Prop
  | .skip, st, K => K .normal st
  | .ops l, st, K => opsP ar cl tab md l st fun st' => cleanP m vars st' (K .normal)
  | .drawn all l, st, K => drawnP ar cl tab md all 0 l st [] True fun st' => cleanP m vars st' (K .normal)
  | .seq x y, st, K => codeP tab md m vars x st fun e st' => match e with
    | .normal => codeP tab md m vars y st' K
    | .exit i => K (.exit i) st'
    | .ret => K .ret st'
    | _ => False
  | .cond c x y, st, K => match look st.tm c with
    | some (.one (.t (.bool b))) => match b with
      | true => codeP tab md m vars x st K
      | false => codeP tab md m vars y st K
    | _ => False
  | .block id c, st, K => codeP tab md m vars c st fun e st' => match e with
    | .normal => K .normal st'
    | .exit i => bif eqB i id then K .normal st' else K (.exit i) st'
    | .ret => K .ret st'
    | _ => False
  | .loop c, st, K => LoopP m (fun st' K' => codeP tab md m vars c st' K') st K
  | .exit i, st, K => K (.exit i) st
  | .ret, st, K => K .ret st
  | .bad, _, _ => False

/-- What the results' variables hold. -/
def resE (tab : TF) (tm : Nat → Option A) (lk : Nat → Option Ob) : ResultVar → Option A
  | .tmp t => tm t
  | .cell t ty => match tm t with
    | some (.one (.ptr o off)) => match tab ty, lk o with
      | some ti, some (.box cs _) => bif leB (off + ti.size) cs.length then some (loadA ti.agg ((cs.drop off).take ti.size)) else none
      | _, _ => none
    | _ => none
def ressE (tab : TF) (tm : Nat → Option A) (lk : Nat → Option Ob) : List ResultVar → Option (List A)
  | [] => some []
  | r :: l => match resE tab tm lk r, ressE tab tm lk l with
    | some a, some as => some (a :: as)
    | _, _ => none
def outE (l : List A) : A := match l with
  | [a] => a
  | l => .tup l
def startT : Nat → List A → Tms
  | _, [] => []
  | i, a :: r => (i, a) :: startT (i + 1) r
/-- What is handed back: the statement about it is not looked into. -/
inductive RetP (K : A → Obs → Prop) (r : A) (ob : Obs) : Prop where
  | mk (h : K r ob)
/-- What a body hands back: trees, or memory of its own; and what it was handed, as it left it. -/
def retP (tab : TF) (m : Nat) (rm : List (Option (List (Nat × Nat)))) (rs : List ResultVar) (K : A → Obs → Prop) (st : St) : Prop :=
  match ressE tab (look st.tm) (look st.ob) rs with
  | some l => match preArgs (look st.ob) 4000000 rm l with
    | some p => bif nodupB (keys p.vo) && freshB (look st.ob) (keys p.vo) && posB p.vo then
        retN p (updO (look st.ob) (p.vo ++ frz (look st.ob) p.fr)) else False
    | none => False
  | none => False
where
  retN (p : Pre) (lk : Nat → Option Ob) : Prop := retR p lk (idR (upto m) ++ numFrom 32 (above m (reach lk 2 (nub p.own (upto m)))))
  retR (p : Pre) (lk : Nat → Option Ob) (ρ : List (Nat × Nat)) : Prop :=
    bif okRen ρ && keepB ρ m then RetP K (outE (A.ren.go ρ keep7 lk p.args)) (renO ρ keep7 lk ρ) else False
def runP (tab : TF) (md : MF) (rm : List (Option (List (Nat × Nat)))) (vars : List Nat) (c : Kode) (rs : List ResultVar) (args : List A) (ob : Obs) (K : A → Obs → Prop) : Prop :=
  codeP ar cl tab md ob.length vars c ⟨startT 0 args, ob⟩ fun e st => match e with
    | .normal => retP tab ob.length rm rs K st
    | .ret => retP tab ob.length rm rs K st
    | _ => False
def bodyP (tab : TF) (md : MF) (rm : List (Option (List (Nat × Nat)))) (vars : List Nat) (fn : Func) (args : List A) (ob : Obs) (K : A → Obs → Prop) : Prop :=
  match fn.body with
  | some c => runP ar cl tab md rm vars (kode c) fn.results.toList args ob K
  | none => False
end
end Go.TL

/- TlD -/
namespace Go.TL
open Go

/-- A value of one cell that reads as a tree; the blocks that it leads to are among 'ok'. -/
inductive Rep (w : World) (ok : Nat → Prop) : Value → T → Prop
  | bool (b : Bool) : Rep w ok (.bool b) (.bool b)
  | int (k : IntKind) (n : Int) (h : k.has n) : Rep w ok (.int k n) (.int k n)
  | str (s : ByteArray) (h : s.size ≤ 2 ^ 63 - 1) : Rep w ok (.string s) (.str s.data.toList)
  | snil : Rep w ok (.slice none 0 0) (.sl [])
  | szero (x : Addr) (n : Nat) : Rep w ok (.slice (some x) 0 n) (.sl [])
  | sl (b off cap sz : Nat) (es : List (List T)) (vs : Nat → Nat → Value) (hm : es.length ≤ 2 ^ 63 - 1) (hcap : es.length ≤ cap) (hsz : ∀ e ∈ es, e.length = sz) (hok : ok b)
      (hc : ∀ i j, i < es.length → j < sz → w.cell? ⟨b, off + i * sz + j, none⟩ = some (vs i j))
      (hr : ∀ (i j : Nat) (e : List T) (t : T), es[i]? = some e → e[j]? = some t → Rep w ok (vs i j) t) : Rep w ok (.slice (some ⟨b, off, none⟩) es.length cap) (.sl es)
  | pt (b off0 off : Nat) (cs : List T) (vs : Nat → Value) (hok : ok b)
      (hc : ∀ j, j < cs.length → w.cell? ⟨b, off0 + j, none⟩ = some (vs j)) (hr : ∀ (j : Nat) (t : T), cs[j]? = some t → Rep w ok (vs j) t) : Rep w ok (.pointer (some ⟨b, off0 + off, none⟩)) (.pt cs off)
  | fn (f : Fn) (first : List (List T)) (caps : List T) (fvs : List (List Value)) (cvs : List Value) (hf : fvs.length = first.length)
      (hfl : ∀ (i : Nat) (x : List Value) (y : List T), fvs[i]? = some x → first[i]? = some y → x.length = y.length) (hc : cvs.length = caps.length)
      (hfr : ∀ (i j : Nat) (x : List Value) (y : List T) (v : Value) (t : T), fvs[i]? = some x → first[i]? = some y → x[j]? = some v → y[j]? = some t → Rep w ok v t)
      (hcr : ∀ (j : Nat) (v : Value) (t : T), cvs[j]? = some v → caps[j]? = some t → Rep w ok v t) :
      Rep w ok (.func f (fvs.map fun c => .agg c.toArray).toArray cvs.toArray) (.fn f first caps)

theorem cell_of_block {w w' : World} {b : Nat} (h : w'.heap[b]? = w.heap[b]?) (i : Nat) : w'.cell? ⟨b, i, none⟩ = w.cell? ⟨b, i, none⟩ := by
  simp only [World.cell?, h]

theorem Rep.mono {w w' : World} {ok ok' : Nat → Prop} {v : Value} {t : T} (h : Rep w ok v t) (hok : ∀ b, ok b → ok' b) (hw : ∀ b, ok b → w'.heap[b]? = w.heap[b]?) : Rep w' ok' v t := by
  induction h with
  | bool b => exact .bool b
  | int k n h => exact .int k n h
  | str s h => exact .str s h
  | snil => exact .snil
  | szero x n => exact .szero x n
  | sl b off cap sz es vs hm hcap hsz hb hc hr ih =>
    exact .sl b off cap sz es vs hm hcap hsz (hok _ hb) (fun i j hi hj => by rw [cell_of_block (hw b hb)]; exact hc i j hi hj) ih
  | pt b off0 off cs vs hb hc hr ih =>
    exact .pt b off0 off cs vs (hok _ hb) (fun j hj => by rw [cell_of_block (hw b hb)]; exact hc j hj) ih
  | fn f first caps fvs cvs hf hfl hc hfr hcr ih1 ih2 =>
    exact .fn f first caps fvs cvs hf hfl hc ih1 ih2

/-- What reads as a tree whose memory is owned, each block once; the blocks are among 'S'. -/
inductive Dp (w : World) : (Nat → Prop) → Value → T → Prop
  | bool (S : Nat → Prop) (b : Bool) : Dp w S (.bool b) (.bool b)
  | int (S : Nat → Prop) (k : IntKind) (n : Int) (h : k.has n) : Dp w S (.int k n) (.int k n)
  | str (S : Nat → Prop) (s : ByteArray) (h : s.size ≤ 2 ^ 63 - 1) : Dp w S (.string s) (.str s.data.toList)
  | snil (S : Nat → Prop) : Dp w S (.slice none 0 0) (.sl [])
  | szero (S : Nat → Prop) (x : Addr) (n : Nat) : Dp w S (.slice (some x) 0 n) (.sl [])
  | sl (S : Nat → Prop) (b cap sz : Nat) (es : List (List T)) (c : Array Value) (e : TypeId) (fr : Nat × Nat) (vs : Nat → Nat → Value) (subs : Nat → Nat → Nat → Prop)
      (hm : es.length ≤ 2 ^ 63 - 1) (hcap : es.length ≤ cap) (hsz : ∀ x ∈ es, x.length = sz) (hS : S b)
      (hb : w.heap[b]? = some (.cells c e fr)) (hf : fr.1 = fr.2 ∨ c.size ≤ fr.1)
      (hc : ∀ i j x t, es[i]? = some x → x[j]? = some t → c[i * sz + j]? = some (vs i j))
      (hr : ∀ i j x t, es[i]? = some x → x[j]? = some t → Dp w (subs i j) (vs i j) t)
      (hsub : ∀ i j k, subs i j k → S k ∧ k ≠ b) (hdis : ∀ i j i' j' k, subs i j k → subs i' j' k → i = i' ∧ j = j') : Dp w S (.slice (some ⟨b, 0, none⟩) es.length cap) (.sl es)
theorem Dp.mono {w w' : World} {S S' : Nat → Prop} {v : Value} {t : T} (h : Dp w S v t) (hS : ∀ b, S b → S' b) (hw : ∀ b, S b → w'.heap[b]? = w.heap[b]?) : Dp w' S' v t := by
  induction h generalizing S' with
  | bool S b => exact .bool _ b
  | int S k n h => exact .int _ k n h
  | str S s h => exact .str _ s h
  | snil S => exact .snil _
  | szero S x n => exact .szero _ x n
  | sl S b cap sz es c e fr vs subs hm hcap hsz hb0 hb hf hc hr hsub hdis ih =>
    exact .sl S' b cap sz es c e fr vs subs hm hcap hsz (hS _ hb0) ((hw b hb0).trans hb) hf hc (fun i j x t hx ht => ih i j x t hx ht (fun _ h => h) fun k hk => hw k (hsub i j k hk).1) (fun i j k hk => ⟨hS _ (hsub i j k hk).1, (hsub i j k hk).2⟩) hdis
theorem Dp.rep {w : World} {ok S : Nat → Prop} {v : Value} {t : T} (h : Dp w S v t) (hS : ∀ b, S b → ok b) : Rep w ok v t := by
  induction h with
  | bool S b => exact .bool b
  | int S k n h => exact .int k n h
  | str S s h => exact .str s h
  | snil S => exact .snil
  | szero S x n => exact .szero x n
  | sl S b cap sz es c e fr vs subs hm hcap hsz hb0 hb hf hc hr hsub hdis ih =>
    refine .sl b 0 cap sz es vs hm hcap hsz (hS _ hb0) (fun i j hi hj => ?_) fun i j x t hx ht => ih i j x t hx ht fun k hk => hS _ (hsub i j k hk).1
    have hx : es[i]? = some es[i] := List.getElem?_eq_getElem hi
    have hl : es[i].length = sz := hsz _ (List.getElem_mem hi)
    have := hc i j es[i] _ hx (List.getElem?_eq_getElem (by omega))
    simp only [World.cell?, hb]
    simpa using this

/-- What stands for an object in memory: the value that its owner holds, the blocks that are its own; of a row that never grows: what the places of its slices hold. -/
structure Hd where
  v : Value
  own : List Nat
  sub : Nat → Nat → Value
abbrev hdOf (v : Value) (own : List Nat) : Hd := ⟨v, own, fun _ _ => undef⟩
@[simp] theorem hdOf_v (v : Value) (own : List Nat) : (hdOf v own).v = v := rfl
@[simp] theorem hdOf_own (v : Value) (own : List Nat) : (hdOf v own).own = own := rfl

abbrev OF := Nat → Option Ob
abbrev HF := Nat → Hd

/-- A part of a slice. -/
def PartV (h : Value) (sz : Nat) (i j : Int) (v : Value) : Prop :=
  (h = .slice none 0 0 ∧ i = 0 ∧ j = 0 ∧ v = .slice none 0 0) ∨ ∃ b len cap, h = .slice (some ⟨b, 0, none⟩) len cap ∧ 0 ≤ i ∧ i ≤ j ∧ j ≤ (len : Nat) ∧ v = .slice (some (if cap = i.toNat then ⟨b, 0, none⟩ else ⟨b, i.toNat * sz, none⟩)) (j.toNat - i.toNat) (cap - i.toNat)

section
variable (w : World) (ok : Nat → Prop) (hd : HF) (ob : OF)

def CapR : Value → Cap → Prop
  | v, .t c => Rep w ok v c
  | v, .ptr o off => ∃ cs fz b, ob o = some (.box cs fz) ∧ (hd o).v = .pointer (some ⟨b, 0, none⟩) ∧ v = .pointer (some ⟨b, off, none⟩)
def VR : Value → V → Prop
  | v, .t c => Rep w ok v c
  | v, .nil => v = .slice none 0 0
  | v, .row o g => ∃ sz es cur tags fz, ob o = some (.row sz es cur tags fz) ∧ g ∈ tags ∧ (∃ x n c, v = .slice x n c) ∧ (g = cur → v = (hd o).v)
  | v, .ptr o off => CapR w ok hd ob v (.ptr o off)
  | v, .elt o g i j => ∃ sz es cur tags fz, ob o = some (.row sz es cur tags fz) ∧ g ∈ tags ∧ (∃ x, v = .pointer x) ∧
      (g = cur → 0 ≤ i ∧ ∃ b len cap, (hd o).v = .slice (some ⟨b, 0, none⟩) len cap ∧ v = .pointer (some ⟨b, i.toNat * wd sz + j, none⟩))
  | v, .fn f first caps => ∃ (fvs : List (List Value)) (cvs : List Value), v = .func f (fvs.map fun c => .agg c.toArray).toArray cvs.toArray ∧ fvs.length = first.length ∧
      (∀ (i : Nat) (x : List Value) (y : List T), fvs[i]? = some x → first[i]? = some y → x.length = y.length) ∧ cvs.length = caps.length ∧
      (∀ (i j : Nat) (x : List Value) (y : List T) (v : Value) (t : T), fvs[i]? = some x → first[i]? = some y → x[j]? = some v → y[j]? = some t → Rep w ok v t) ∧ (∀ (j : Nat) v t, cvs[j]? = some v → caps[j]? = some t → CapR w ok hd ob v t)
  | v, .bsl o n _ => ∃ cs fz b, ob o = some (.box cs fz) ∧ (hd o).v = .pointer (some ⟨b, 0, none⟩) ∧ v = .slice (some ⟨b, 0, none⟩) n n ∧ n ≤ 1000000
  | v, .part o g i j => ∃ sz es cur tags fz, ob o = some (.row sz es cur tags fz) ∧ g ∈ tags ∧ (∃ x n c, v = .slice x n c) ∧ (g = cur → PartV (hd o).v sz i j v)
  | v, .sub o g i j => ∃ sz es cur tags fz, ob o = some (.row sz es cur tags fz) ∧ g ∈ tags ∧ (∃ x n c, v = .slice x n c) ∧ (g = cur → v = (hd o).sub i.toNat j)
  | v, .selt o g i j k => ∃ sz es cur tags fz, ob o = some (.row sz es cur tags fz) ∧ g ∈ tags ∧ (∃ x, v = .pointer x) ∧ (g = cur → 0 ≤ k ∧ ∃ b len cap, (hd o).sub i.toNat j = .slice (some ⟨b, 0, none⟩) len cap ∧ v = .pointer (some ⟨b, k.toNat, none⟩))
  | _, .any => True

inductive AR : Value → A → Prop
  | one (v c) (h : VR w ok hd ob v c) : AR v (.one c)
  | agg (cs : List Value) (vs : List V) (hl : cs.length = vs.length) (h : ∀ (i : Nat) c x, cs[i]? = some c → vs[i]? = some x → VR w ok hd ob c x) : AR (.agg cs.toArray) (.agg vs)
  | tup (xs : List Value) (as : List A) (hl : xs.length = as.length) (h : ∀ (i : Nat) x a, xs[i]? = some x → as[i]? = some a → AR x a) : AR (.tuple xs.toArray) (.tup as)

/-- No cell of the block is frozen. -/
def Free (n : Nat) (fr : Nat × Nat) : Prop := fr.1 = fr.2 ∨ n ≤ fr.1
theorem Free.at {n : Nat} {fr : Nat × Nat} (h : Free n fr) : ∀ i, i < n → ¬ (fr.1 ≤ i ∧ i < fr.2) := by
  intro i hi; rcases h with h | h <;> omega

/-- A row whose elements lead to what is frozen. -/
def RowS (h : Hd) (sz : Nat) (es : List (List T)) (fz : Bool) : Prop :=
  (es = [] ∧ h.v = .slice none 0 0 ∧ h.own = []) ∨
      ∃ b c e fr cap, h.v = .slice (some ⟨b, 0, none⟩) es.length cap ∧ h.own = (if fz then [] else [b]) ∧ (fz = true → ok b) ∧ w.heap[b]? = some (.cells c e fr) ∧ Free c.size fr ∧
        c.size = cap * sz ∧ es.length ≤ cap ∧ es.length ≤ 2 ^ 63 - 1 ∧ (∀ x ∈ es, x.length = sz) ∧
        ∀ (i j : Nat) x t, es[i]? = some x → x[j]? = some t → ∃ v, c[i * sz + j]? = some v ∧ Rep w ok v t
/-- What a block holds of a row that owns what its elements lead to. -/
structure Deep (w : World) (h : Hd) (sz : Nat) (es : List (List T)) (b cap : Nat) (c : Array Value) (e : TypeId) (fr : Nat × Nat) (vs : Nat → Nat → Value) (subs : Nat → Nat → Nat → Prop) : Prop where
  v : h.v = .slice (some ⟨b, 0, none⟩) es.length cap
  own : b ∈ h.own
  blk : w.heap[b]? = some (.cells c e fr)
  free : Free c.size fr
  cap : es.length ≤ cap
  max : es.length ≤ 2 ^ 63 - 1
  wid : ∀ x ∈ es, x.length = sz
  cell : ∀ i j x t, es[i]? = some x → x[j]? = some t → c[i * sz + j]? = some (vs i j)
  dp : ∀ i j x t, es[i]? = some x → x[j]? = some t → Dp w (subs i j) (vs i j) t
  sub : ∀ i j k, subs i j k → k ∈ h.own ∧ k ≠ b
  dis : ∀ i j i' j' k, subs i j k → subs i' j' k → i = i' ∧ j = j'
/-- A row that owns what its elements lead to. -/
def RowD (w : World) (h : Hd) (sz : Nat) (es : List (List T)) : Prop :=
  (es = [] ∧ h.v = .slice none 0 0) ∨ ∃ b cap c e fr vs subs, Deep w h sz es b cap c e fr vs subs ∧ c.size = cap * sz
/-- Such a row that never grows. -/
def RowP (w : World) (h : Hd) (sz : Nat) (es : List (List T)) : Prop :=
  (es = [] ∧ ∃ x n, h.v = .slice x 0 n ∧ (x = none → n = 0)) ∨ ∃ b cap c e fr vs subs, Deep w h sz es b cap c e fr vs subs ∧ ∀ i j x l, es[i]? = some x → x[j]? = some (.sl l) → vs i j = h.sub i j
def ObR (h : Hd) : Ob → Prop
  | .box cs fz => ∃ b c e fr, h.v = .pointer (some ⟨b, 0, none⟩) ∧ h.own = (if fz then [] else [b]) ∧ (fz = true → ok b) ∧ w.heap[b]? = some (.cells c e fr) ∧ Free c.size fr ∧
      c.size = cs.length ∧ ∀ (j : Nat) v x, c[j]? = some v → cs[j]? = some x → VR w ok hd ob v x
  | .row sz es cur tags fz => cur ∈ tags ∧ 0 < wd sz ∧ match cls sz fz with
    | .s => RowS w ok h (wd sz) es fz
    | .d => RowD w h (wd sz) es
    | .p => RowP w h (wd sz) es
    | .f => h.own = [] ∧ Rep w ok h.v (.sl es)
end

/-- The table of the powers of ten, laid where the program keeps it. -/
def pow10L : List Int := [1, 10, 100, 1000, 10000, 100000, 1000000, 10000000, 100000000, 1000000000, 10000000000, 100000000000, 1000000000000, 10000000000000, 100000000000000, 1000000000000000, 10000000000000000, 100000000000000000, 1000000000000000000, 10000000000000000000]
/-- What is known of the program's variables. -/
def Gl (P : Program) (w : World) (ok : Nat → Prop) : Prop :=
  ∀ g, P.globalNamed "internal/strconv.uint64pow10" = some g → ok g ∧ w.var? P "internal/strconv.uint64pow10" = some (pow10L.map fun z => Value.int .u64 z).toArray
theorem Gl.mono {P : Program} {w w' : World} {ok ok' : Nat → Prop} (h : Gl P w ok) (hok : ∀ b, ok b → ok' b) (hw : ∀ b, ok b → w'.heap[b]? = w.heap[b]?) : Gl P w' ok' := by
  intro g hg
  obtain ⟨h1, h2⟩ := h g hg
  refine ⟨hok _ h1, ?_⟩
  simp only [World.var?, hg, Option.bind_some] at h2 ⊢
  rw [hw g h1]; exact h2

/-- Where the call began: the world, the blocks that trees may lead to, the blocks of the objects that were handed in. -/
structure Env (P : Program) where
  w0 : World
  ok0 : Nat → Prop
  oo : List Nat
  hd0 : HF
  ob0 : OF
  nt : Nat
  gl : Gl P w0 ok0
  lt : ∀ b, ok0 b → b < w0.heap.size ∧ b ∉ oo

/-- Old memory but for some blocks is as it was. -/
structure Fr (oo : List Nat) (w w' : World) : Prop where
  os : w'.os = w.os
  tape : w'.tape = w.tape
  output : w'.output = w.output
  size : w.heap.size ≤ w'.heap.size
  block : ∀ b, b < w.heap.size → b ∉ oo → w'.heap[b]? = w.heap[b]?
theorem Fr.refl (oo : List Nat) (w : World) : Fr oo w w := ⟨rfl, rfl, rfl, Nat.le_refl _, fun _ _ _ => rfl⟩
theorem Fr.trans {oo : List Nat} {a b c : World} (h : Fr oo a b) (k : Fr oo b c) : Fr oo a c :=
  ⟨k.os.trans h.os, k.tape.trans h.tape, k.output.trans h.output, Nat.le_trans h.size k.size, fun i hi hn => (k.block i (Nat.lt_of_lt_of_le hi h.size) hn).trans (h.block i hi hn)⟩

/-- Objects and memory: what is owned is owned once, and no tree leads there. -/
structure ORel (ok : Nat → Prop) (hd : HF) (ob : OF) (w : World) : Prop where
  okLt : ∀ b, ok b → b < w.heap.size
  own : ∀ n b, ob n ≠ none → b ∈ (hd n).own → ¬ ok b ∧ b < w.heap.size
  disj : ∀ n m b, n ≠ m → ob n ≠ none → ob m ≠ none → b ∈ (hd n).own → b ∉ (hd m).own
  obs : ∀ n o, ob n = some o → ObR w ok hd ob (hd n) o

/-- What was handed in is still there: a variable where it was, a row of the size that it had. -/
structure Keep (hd : HF) (ob : OF) (hd' : HF) (ob' : OF) : Prop where
  box : ∀ o cs fz, ob o = some (.box cs fz) → ∃ cs' fz', ob' o = some (.box cs' fz') ∧ (hd' o).v = (hd o).v
  row : ∀ o sz es cur tags fz, ob o = some (.row sz es cur tags fz) → ∃ es' cur' tags' fz', ob' o = some (.row sz es' cur' tags' fz') ∧ (cur' = 7 → cur = 7 ∧ (hd' o).v = (hd o).v ∧ (hd' o).sub = (hd o).sub)
theorem Keep.refl (hd : HF) (ob : OF) : Keep hd ob hd ob := ⟨fun _ cs fz h => ⟨cs, fz, h, rfl⟩, fun _ _ es cur tags fz h => ⟨es, cur, tags, fz, h, fun e => ⟨e, rfl, rfl⟩⟩⟩
theorem Keep.trans {h1 h2 h3 : HF} {o1 o2 o3 : OF} (a : Keep h1 o1 h2 o2) (b : Keep h2 o2 h3 o3) : Keep h1 o1 h3 o3 where
  box o cs fz h := by
    obtain ⟨cs', fz', h', e⟩ := a.box o cs fz h
    obtain ⟨cs'', fz'', h'', e'⟩ := b.box o cs' fz' h'
    exact ⟨cs'', fz'', h'', e'.trans e⟩
  row o sz es cur tags fz h := by
    obtain ⟨_, _, _, _, h', e⟩ := a.row o sz es cur tags fz h
    obtain ⟨es2, cur2, tags2, fz2, h2, e2⟩ := b.row o sz _ _ _ _ h'
    exact ⟨es2, cur2, tags2, fz2, h2, fun q => ⟨(e (e2 q).1).1, (e2 q).2.1.trans (e (e2 q).1).2.1, (e2 q).2.2.trans (e (e2 q).1).2.2⟩⟩

structure Rel {P : Program} (E : Env P) (ok : Nat → Prop) (hd : HF) (tm : Nat → Option A) (ob : OF) (tmps : Array Value) (w : World) : Prop extends ORel ok hd ob w where
  fr : Fr E.oo E.w0 w
  ok0 : ∀ b, E.ok0 b → ok b
  okSub : ∀ b, ok b → E.ok0 b ∨ E.w0.heap.size ≤ b ∨ b ∈ E.oo
  ownSub : ∀ n b, ob n ≠ none → b ∈ (hd n).own → E.w0.heap.size ≤ b ∨ b ∈ E.oo
  nt : tmps.size = E.nt
  kp : Keep E.hd0 E.ob0 hd ob
  tms : ∀ t x, tm t = some x → AR w ok hd ob (tmps.getD t undef) x

theorem Rel.gl {P : Program} {E : Env P} {ok : Nat → Prop} {hd : HF} {tm : Nat → Option A} {ob : OF} {tmps : Array Value} {w : World} (R : Rel E ok hd tm ob tmps w) : Gl P w ok :=
  E.gl.mono R.ok0 fun b hb => R.fr.block b (E.lt b hb).1 (E.lt b hb).2

/-- References into the elder objects hold of the newer ones. -/
structure Le (hd : HF) (ob : OF) (hd' : HF) (ob' : OF) : Prop where
  box : ∀ o cs fz, ob o = some (.box cs fz) → ∃ cs' fz', ob' o = some (.box cs' fz') ∧ (hd' o).v = (hd o).v
  row : ∀ o sz es cur tags fz, ob o = some (.row sz es cur tags fz) → ∃ es' cur' tags' fz', ob' o = some (.row sz es' cur' tags' fz') ∧ (∀ g, g ∈ tags → g ∈ tags') ∧
    ((cur' = cur ∧ (hd' o).v = (hd o).v ∧ (hd' o).sub = (hd o).sub) ∨ (cur' ∉ tags ∧ cur' ≠ 7))
theorem Le.refl (hd : HF) (ob : OF) : Le hd ob hd ob :=
  ⟨fun _ cs fz h => ⟨cs, fz, h, rfl⟩, fun _ _ es cur tags fz h => ⟨es, cur, tags, fz, h, fun _ hg => hg, .inl ⟨rfl, rfl, rfl⟩⟩⟩

theorem Le.keep {hd : HF} {ob : OF} {hd' : HF} {ob' : OF} (h : Le hd ob hd' ob') : Keep hd ob hd' ob' where
  box := h.box
  row o sz es cur tags fz e := by
    obtain ⟨es', cur', tags', fz', h', _, hc⟩ := h.row o sz es cur tags fz e
    refine ⟨es', cur', tags', fz', h', fun q => ?_⟩
    rcases hc with ⟨e1, e2⟩ | ⟨_, e1⟩
    · exact ⟨e1 ▸ q, e2⟩
    · exact absurd q e1

theorem CapR.mono {w w' : World} {ok ok' : Nat → Prop} {hd hd' : HF} {ob ob' : OF} {v : Value} {c : Cap} (h : CapR w ok hd ob v c)
    (hok : ∀ b, ok b → ok' b) (hw : ∀ b, ok b → w'.heap[b]? = w.heap[b]?) (le : Le hd ob hd' ob') : CapR w' ok' hd' ob' v c := by
  cases c with
  | t c => exact Rep.mono h hok hw
  | ptr o off =>
    obtain ⟨cs, fz, b, h1, h2, h3⟩ := h
    obtain ⟨cs', fz', h1', h2'⟩ := le.box o cs fz h1
    exact ⟨cs', fz', b, h1', h2'.trans h2, h3⟩
theorem VR.mono {w w' : World} {ok ok' : Nat → Prop} {hd hd' : HF} {ob ob' : OF} {v : Value} {c : V} (h : VR w ok hd ob v c)
    (hok : ∀ b, ok b → ok' b) (hw : ∀ b, ok b → w'.heap[b]? = w.heap[b]?) (le : Le hd ob hd' ob') : VR w' ok' hd' ob' v c := by
  cases c with
  | t c => exact Rep.mono h hok hw
  | nil => exact h
  | row o g =>
    obtain ⟨sz, es, cur, tags, fz, h1, h2, h2', h3⟩ := h
    obtain ⟨es', cur', tags', fz', h1', ht, hc⟩ := le.row o sz es cur tags fz h1
    refine ⟨sz, es', cur', tags', fz', h1', ht g h2, h2', fun e => ?_⟩
    rcases hc with ⟨rfl, hv, hsb⟩ | ⟨hn, _⟩
    · rw [hv]; exact h3 e
    · exact absurd (e ▸ h2) hn
  | ptr o off => exact CapR.mono (c := .ptr o off) h hok hw le
  | elt o g i j =>
    obtain ⟨sz, es, cur, tags, fz, h1, h2, h2', h3⟩ := h
    obtain ⟨es', cur', tags', fz', h1', ht, hc⟩ := le.row o sz es cur tags fz h1
    refine ⟨sz, es', cur', tags', fz', h1', ht g h2, h2', fun e => ?_⟩
    rcases hc with ⟨rfl, hv, hsb⟩ | ⟨hn, _⟩
    · rw [hv]; exact h3 e
    · exact absurd (e ▸ h2) hn
  | fn f first caps =>
    obtain ⟨fvs, cvs, h1, h2, h3, h4, h5, h6⟩ := h
    exact ⟨fvs, cvs, h1, h2, h3, h4, fun i j x y v t a b c d => (h5 i j x y v t a b c d).mono hok hw, fun j v t a b => CapR.mono (h6 j v t a b) hok hw le⟩
  | bsl o n sz =>
    obtain ⟨cs, fz, b, h1, h2, h3, h4⟩ := h
    obtain ⟨cs', fz', h1', h2'⟩ := le.box o cs fz h1
    exact ⟨cs', fz', b, h1', h2'.trans h2, h3, h4⟩
  | part o g i j =>
    obtain ⟨sz, es, cur, tags, fz, h1, h2, h2', h3⟩ := h
    obtain ⟨es', cur', tags', fz', h1', ht, hc⟩ := le.row o sz es cur tags fz h1
    refine ⟨sz, es', cur', tags', fz', h1', ht g h2, h2', fun e => ?_⟩
    rcases hc with ⟨rfl, hv, hsb⟩ | ⟨hn, _⟩
    · rw [hv]; exact h3 e
    · exact absurd (e ▸ h2) hn
  | sub o g i j =>
    obtain ⟨sz, es, cur, tags, fz, h1, h2, h2', h3⟩ := h
    obtain ⟨es', cur', tags', fz', h1', ht, hc⟩ := le.row o sz es cur tags fz h1
    refine ⟨sz, es', cur', tags', fz', h1', ht g h2, h2', fun e => ?_⟩
    rcases hc with ⟨rfl, hv, hsb⟩ | ⟨hn, _⟩
    · rw [hsb]; exact h3 e
    · exact absurd (e ▸ h2) hn
  | selt o g i j k =>
    obtain ⟨sz, es, cur, tags, fz, h1, h2, h2', h3⟩ := h
    obtain ⟨es', cur', tags', fz', h1', ht, hc⟩ := le.row o sz es cur tags fz h1
    refine ⟨sz, es', cur', tags', fz', h1', ht g h2, h2', fun e => ?_⟩
    rcases hc with ⟨rfl, hv, hsb⟩ | ⟨hn, _⟩
    · rw [hsb]; exact h3 e
    · exact absurd (e ▸ h2) hn
  | any => trivial
theorem AR.mono {w w' : World} {ok ok' : Nat → Prop} {hd hd' : HF} {ob ob' : OF} {v : Value} {a : A} (h : AR w ok hd ob v a)
    (hok : ∀ b, ok b → ok' b) (hw : ∀ b, ok b → w'.heap[b]? = w.heap[b]?) (le : Le hd ob hd' ob') : AR w' ok' hd' ob' v a := by
  induction h with
  | one v c h => exact .one v c (h.mono hok hw le)
  | agg cs vs hl h => exact .agg cs vs hl fun i c x a b => (h i c x a b).mono hok hw le
  | tup xs as hl h ih => exact .tup xs as hl ih
theorem RowS.mono {w w' : World} {ok ok' : Nat → Prop} {h : Hd} {sz : Nat} {es : List (List T)} {fz : Bool} (hh : RowS w ok h sz es fz)
    (hok : ∀ b, ok b → ok' b) (hw : ∀ b, ok b → w'.heap[b]? = w.heap[b]?) (ho : ∀ b, b ∈ h.own → w'.heap[b]? = w.heap[b]?) : RowS w' ok' h sz es fz := by
  rcases hh with h | ⟨b, c, e, fr, cap, h1, h2, h3, h4, h5, h6, h7, h7', h8, h9⟩
  · exact .inl h
  · have hb : w'.heap[b]? = w.heap[b]? := by
      cases fz with
      | true => exact hw b (h3 rfl)
      | false => exact ho b (by rw [h2]; simp)
    refine .inr ⟨b, c, e, fr, cap, h1, h2, fun z => hok _ (h3 z), hb.trans h4, h5, h6, h7, h7', h8, fun i j x t p q => ?_⟩
    obtain ⟨v, hv, hr⟩ := h9 i j x t p q
    exact ⟨v, hv, hr.mono hok hw⟩
theorem Deep.mono {w w' : World} {h h' : Hd} {sz : Nat} {es : List (List T)} {b cap : Nat} {c : Array Value} {e : TypeId} {fr : Nat × Nat} {vs : Nat → Nat → Value} {subs : Nat → Nat → Nat → Prop}
    (d : Deep w h sz es b cap c e fr vs subs) (hv : h'.v = h.v) (hO : ∀ k, k ∈ h.own → k ∈ h'.own) (ho : ∀ k, k ∈ h.own → w'.heap[k]? = w.heap[k]?) : Deep w' h' sz es b cap c e fr vs subs where
  v := hv.trans d.v
  own := hO _ d.own
  blk := (ho _ d.own).trans d.blk
  free := d.free
  cap := d.cap
  max := d.max
  wid := d.wid
  cell := d.cell
  dp i j x t p q := (d.dp i j x t p q).mono (fun _ h => h) fun k hk => ho k (d.sub i j k hk).1
  sub i j k hk := ⟨hO _ (d.sub i j k hk).1, (d.sub i j k hk).2⟩
  dis := d.dis
theorem Deep.toDp {w : World} {h : Hd} {sz : Nat} {es : List (List T)} {b cap : Nat} {c : Array Value} {e : TypeId} {fr : Nat × Nat} {vs : Nat → Nat → Value} {subs : Nat → Nat → Nat → Prop}
    (d : Deep w h sz es b cap c e fr vs subs) : Dp w (fun k => k ∈ h.own) h.v (.sl es) := by
  rw [d.v]
  exact .sl _ b cap sz es c e fr vs subs d.max d.cap d.wid d.own d.blk d.free d.cell d.dp d.sub d.dis
theorem RowD.mono {w w' : World} {h : Hd} {sz : Nat} {es : List (List T)} (hh : RowD w h sz es) (ho : ∀ b, b ∈ h.own → w'.heap[b]? = w.heap[b]?) : RowD w' h sz es := by
  rcases hh with h | ⟨b, cap, c, e, fr, vs, subs, d, hs⟩
  · exact .inl h
  · exact .inr ⟨b, cap, c, e, fr, vs, subs, d.mono rfl (fun _ h => h) ho, hs⟩
theorem RowP.mono {w w' : World} {h : Hd} {sz : Nat} {es : List (List T)} (hh : RowP w h sz es) (ho : ∀ b, b ∈ h.own → w'.heap[b]? = w.heap[b]?) : RowP w' h sz es := by
  rcases hh with h | ⟨b, cap, c, e, fr, vs, subs, d, hs⟩
  · exact .inl h
  · exact .inr ⟨b, cap, c, e, fr, vs, subs, d.mono rfl (fun _ h => h) ho, hs⟩
theorem cls_small {sz : Nat} {fz : Bool} (h : sz < 1000000) : cls sz fz = .s := by
  have : ltB sz 1000000 = true := by simpa [ltB] using h
  simp [cls, this]
theorem wd_small {sz : Nat} (h : sz < 1000000) : wd sz = sz := Nat.mod_eq_of_lt h
theorem ObR.small {w : World} {ok : Nat → Prop} {hd : HF} {ob : OF} {h : Hd} {sz : Nat} {es : List (List T)} {cur : Nat} {tags : List Nat} {fz : Bool} (hs : sz < 1000000) :
    ObR w ok hd ob h (.row sz es cur tags fz) ↔ cur ∈ tags ∧ 0 < sz ∧ RowS w ok h sz es fz := by
  simp only [ObR, cls_small hs, wd_small hs]
/-- What any row's owner holds. -/
theorem ObR.slice {w : World} {ok : Nat → Prop} {hd : HF} {ob : OF} {h : Hd} {sz : Nat} {es : List (List T)} {cur : Nat} {tags : List Nat} {fz : Bool} (hx : ObR w ok hd ob h (.row sz es cur tags fz)) :
    ∃ x cap, h.v = .slice x es.length cap ∧ es.length ≤ 2 ^ 63 - 1 := by
  obtain ⟨_, _, hx⟩ := hx
  cases hc : cls sz fz with
  | s =>
    rw [hc] at hx
    rcases hx with ⟨rfl, h1, _⟩ | ⟨b, c, e, fr, cap, h1, _, _, _, _, _, _, h7, _⟩
    · exact ⟨none, 0, h1, by simp⟩
    · exact ⟨_, _, h1, h7⟩
  | d =>
    rw [hc] at hx
    rcases hx with ⟨rfl, h1⟩ | ⟨b, cap, c, e, fr, vs, subs, d, _⟩
    · exact ⟨none, 0, h1, by simp⟩
    · exact ⟨_, _, d.v, d.max⟩
  | p =>
    rw [hc] at hx
    rcases hx with ⟨rfl, x, n, h1, _⟩ | ⟨b, cap, c, e, fr, vs, subs, d, _⟩
    · exact ⟨x, n, h1, by simp⟩
    · exact ⟨_, _, d.v, d.max⟩
  | f =>
    rw [hc] at hx
    obtain ⟨_, hx⟩ := hx
    generalize h.v = v at hx
    cases hx with
    | snil => exact ⟨none, 0, rfl, by simp⟩
    | szero x n => exact ⟨some x, n, rfl, by simp⟩
    | sl b off cap sz es vs hm hcap hsz hok hc hr => exact ⟨_, _, rfl, hm⟩
theorem ObR.mono {w w' : World} {ok ok' : Nat → Prop} {hd hd' : HF} {ob ob' : OF} {h : Hd} {o : Ob} (hh : ObR w ok hd ob h o)
    (hok : ∀ b, ok b → ok' b) (hw : ∀ b, ok b → w'.heap[b]? = w.heap[b]?) (ho : ∀ b, b ∈ h.own → w'.heap[b]? = w.heap[b]?) (le : Le hd ob hd' ob') : ObR w' ok' hd' ob' h o := by
  cases o with
  | box cs fz =>
    obtain ⟨b, c, e, fr, h1, h2, h3, h4, h5, h6, h7⟩ := hh
    have hb : w'.heap[b]? = w.heap[b]? := by
      cases fz with
      | true => exact hw b (h3 rfl)
      | false => exact ho b (by rw [h2]; simp)
    exact ⟨b, c, e, fr, h1, h2, fun z => hok _ (h3 z), hb.trans h4, h5, h6, fun j v x p q => (h7 j v x p q).mono hok hw le⟩
  | row sz es cur tags fz =>
    obtain ⟨h0, hz, h⟩ := hh
    refine ⟨h0, hz, ?_⟩
    cases hd : cls sz fz with
    | s => rw [hd] at h; exact RowS.mono h hok hw ho
    | d => rw [hd] at h; exact RowD.mono h ho
    | p => rw [hd] at h; exact RowP.mono h ho
    | f => rw [hd] at h; exact ⟨h.1, h.2.mono hok hw⟩

/-- A world that has more blocks, the elder ones as they were. -/
structure Ext (w w' : World) : Prop where
  os : w'.os = w.os
  tape : w'.tape = w.tape
  output : w'.output = w.output
  size : w.heap.size ≤ w'.heap.size
  block : ∀ b, b < w.heap.size → w'.heap[b]? = w.heap[b]?
theorem Ext.refl (w : World) : Ext w w := ⟨rfl, rfl, rfl, Nat.le_refl _, fun _ _ => rfl⟩
theorem Ext.trans {a b c : World} (h : Ext a b) (k : Ext b c) : Ext a c :=
  ⟨k.os.trans h.os, k.tape.trans h.tape, k.output.trans h.output, Nat.le_trans h.size k.size, fun i hi => (k.block i (Nat.lt_of_lt_of_le hi h.size)).trans (h.block i hi)⟩
theorem Ext.fr {w w' : World} (h : Ext w w') (oo : List Nat) : Fr oo w w' := ⟨h.os, h.tape, h.output, h.size, fun b hb _ => h.block b hb⟩
theorem ORel.ext {ok : Nat → Prop} {hd : HF} {ob : OF} {w w' : World} (h : ORel ok hd ob w) (e : Ext w w') : ORel ok hd ob w' where
  okLt b hb := Nat.lt_of_lt_of_le (h.okLt b hb) e.size
  own n b hn hb := ⟨(h.own n b hn hb).1, Nat.lt_of_lt_of_le (h.own n b hn hb).2 e.size⟩
  disj := h.disj
  obs n o ho := (h.obs n o ho).mono (fun _ h => h) (fun b hb => e.block b (h.okLt b hb)) (fun b hb => e.block b (h.own n b (by rw [ho]; simp) hb).2) (Le.refl _ _)
theorem Rel.ext {P : Program} {E : Env P} {ok : Nat → Prop} {hd : HF} {tm : Nat → Option A} {ob : OF} {tmps : Array Value} {w w' : World} (h : Rel E ok hd tm ob tmps w) (e : Ext w w') : Rel E ok hd tm ob tmps w' where
  toORel := h.toORel.ext e
  fr := h.fr.trans (e.fr _)
  ok0 := h.ok0
  okSub := h.okSub
  ownSub := h.ownSub
  nt := h.nt
  kp := h.kp
  tms t x hx := (h.tms t x hx).mono (fun _ h => h) (fun b hb => e.block b (h.okLt b hb)) (Le.refl _ _)

end Go.TL

/- TlE -/
namespace Go.TL
open Go

def iopS (op : BinOp) (k : IntKind) (a b : Int) : Int :=
  match op with
  | .add => k.wrap (a + b)
  | .sub => k.wrap (a - b)
  | .mul => k.wrap (a * b)
  | .quo => k.wrap (a.tdiv b)
  | .rem => a.tmod b
  | .and => k.wrap (BitVec.ofInt k.bits a &&& BitVec.ofInt k.bits b).toNat
  | .or => k.wrap (BitVec.ofInt k.bits a ||| BitVec.ofInt k.bits b).toNat
  | .xor => k.wrap (BitVec.ofInt k.bits a ^^^ BitVec.ofInt k.bits b).toNat
  | .andNot => k.wrap (BitVec.ofInt k.bits a &&& ~~~BitVec.ofInt k.bits b).toNat
  | .shl => k.wrap (a * 2 ^ (min b.toNat k.bits))
  | .shr => a.fdiv (2 ^ (min b.toNat k.bits))
  | _ => 0
def icmpS (op : BinOp) (a b : Int) : Bool :=
  match op with
  | .eql => a == b
  | .neq => a != b
  | .lss => decide (a < b)
  | .leq => decide (a ≤ b)
  | .gtr => decide (b < a)
  | .geq => decide (b ≤ a)
  | _ => false
def std : Ar where
  iop := iopS
  icmp := icmpS
  neg k n := k.wrap (0 - n)
  compl k n := k.wrap (BitVec.ofInt k.bits (if k.signed then -1 else k.max) ^^^ BitVec.ofInt k.bits n).toNat
  conv k n := k.wrap n
  imin a b := if b < a then b else a
  imax a b := if b > a then b else a
  bnot b := !b
  beq a b := a == b
  seq a b := a == b
  slt a b := Op.bytesLess a b
  sapp a b := a ++ b
  slen s := s.length
  ssub s l h := (s.take h.toNat).drop l.toNat
  sget s i := ((s.getD i.toNat 0).toNat : Int)
  len es := es.length
  get es i := es.getD i.toNat []
  sub es l h := (es.take h.toNat).drop l.toNat
  app a b := a ++ b
  setc es i j l := es.modify i.toNat fun e => setAt e j l
  rep n z := List.replicate n.toNat z
  ofStr s := encB s
  inb i es := 0 ≤ i ∧ i < es.length
  insub l h es := 0 ≤ l ∧ l ≤ h ∧ h ≤ es.length
  insstr l h s := 0 ≤ l ∧ l ≤ h ∧ h ≤ s.length
  sinb i s := 0 ≤ i ∧ i < s.length
  room b es := es.length * (b + 1) ≤ 2 ^ 46
  mkroom b n := 0 ≤ n ∧ n * (b + 1) ≤ 2 ^ 46
  wid k es := ∀ x, x ∈ es → x.length = k
  shok b := 0 ≤ b
  nz b := b ≠ 0
  big es := es.length ≤ 2 ^ 63 - 1
  sbig s := s.length ≤ 2 ^ 46
  sbig2 s := s.length ≤ 2 ^ 63 - 1
  has := IntKind.has
  emp es := es = []
  flat es := ∀ x, x ∈ es → ∀ t, t ∈ x → flatT t = true

/-- A zero cell, as it is written. -/
def zeroR : Value → V → Prop
  | .int k n, .t (.int k' n') => k = k' ∧ n = n' ∧ k.has n
  | .bool b, .t (.bool b') => b = b'
  | .string s, .t (.str l) => s.data.toList = l ∧ s.size = 0
  | .slice none 0 0, .nil => True
  | .func _ _ _, .any => True
  | .nilFunc, .any => True
  | _, _ => False
theorem zeroR.vr {v : Value} {x : V} (h : zeroR v x) (w : World) (ok : Nat → Prop) (hd : HF) (ob : OF) : VR w ok hd ob v x := by
  unfold zeroR at h
  split at h
  · obtain ⟨rfl, rfl, h⟩ := h; exact .int _ _ h
  · subst h; exact .bool _
  · obtain ⟨rfl, h⟩ := h; exact .str _ (by omega)
  · rfl
  · trivial
  · trivial
  · exact h.elim

def kdR (P : Program) : Kd → TypeDesc → Prop
  | .int k, d => d = .int k
  | .bool, d => d = .bool
  | .str, d => d = .string
  | .slice e, d => d = .slice e
  | .struct fs, d => ∃ a : Array Field, d = .struct a ∧ a.toList.map (fun f => (f.offset, f.type)) = fs ∧ ∀ f ∈ a.toList, P.cellsOf f.type ≠ 0
  | .array n e, d => d = .array n e
  | _, _ => True
structure TIok (P : Program) (t : Nat) (ti : TI) : Prop where
  info : ∃ i, P.info? t = some i ∧ i.size = ti.size ∧ i.bytes = ti.bytes ∧
    ∀ z, ti.zero = some z → ∃ zv, i.zero = some zv ∧ zv.cells.size = z.length ∧ z.length = ti.size ∧ ∀ (j : Nat) v x, zv.cells[j]? = some v → z[j]? = some x → zeroR v x
  kd : ∃ d, P.underlying t = some d ∧ kdR P ti.kd d ∧ ti.agg = (match d with | .struct _ | .array _ _ => true | _ => false)
  pos : ti.agg = false → ti.size = 1
  small : ti.size < 1000000
def TabOk (P : Program) (tab : TF) : Prop := ∀ t ti, tab t = some ti → TIok P t ti

theorem hasB_sound {k : IntKind} {n : Int} (h : hasB k n = true) : k.has n := by
  cases k <;> simp [hasB] at h <;> simp [IntKind.has, IntKind.min, IntKind.max, IntKind.signed, IntKind.bits] <;> omega

section
variable {w : World} {ok : Nat → Prop} {hd : HF} {ob : OF}
theorem AR.one_inv {v : Value} {c : V} (h : AR w ok hd ob v (.one c)) : VR w ok hd ob v c := by cases h; assumption
theorem AR.agg_inv {v : Value} {vs : List V} (h : AR w ok hd ob v (.agg vs)) : ∃ cs : List Value, v = .agg cs.toArray ∧ cs.length = vs.length ∧ ∀ (i : Nat) c x, cs[i]? = some c → vs[i]? = some x → VR w ok hd ob c x := by
  cases h with
  | agg cs _ hl h => exact ⟨cs, rfl, hl, h⟩
theorem AR.tup_inv {v : Value} {as : List A} (h : AR w ok hd ob v (.tup as)) : ∃ xs : List Value, v = .tuple xs.toArray ∧ xs.length = as.length ∧ ∀ (i : Nat) x a, xs[i]? = some x → as[i]? = some a → AR w ok hd ob x a := by
  cases h with
  | tup xs _ hl h => exact ⟨xs, rfl, hl, h⟩
theorem VR.int_inv {v : Value} {k : IntKind} {n : Int} (h : VR w ok hd ob v (.t (.int k n))) : v = .int k n ∧ k.has n := by cases h; exact ⟨rfl, by assumption⟩
theorem VR.bool_inv {v : Value} {b : Bool} (h : VR w ok hd ob v (.t (.bool b))) : v = .bool b := by cases h; rfl
theorem VR.str_inv {v : Value} {s : List UInt8} (h : VR w ok hd ob v (.t (.str s))) : ∃ b : ByteArray, v = .string b ∧ b.data.toList = s ∧ b.size ≤ 2 ^ 63 - 1 := by cases h; exact ⟨_, rfl, rfl, by assumption⟩

theorem constA_rel {v : Value} {a : A} (h : constA v = some a) : AR w ok hd ob v a := by
  unfold constA at h
  split at h
  · injection h with h; subst h; exact .one _ _ (.bool _)
  · rename_i k n
    cases hb : hasB k n with
    | false => simp [hb] at h
    | true => simp [hb] at h; subst h; exact .one _ _ (.int _ _ (hasB_sound hb))
  · rename_i s
    by_cases hb : leB s.data.toList.length 1000000 = true
    · rw [hb] at h
      simp only [cond_true] at h
      injection h with h; subst h
      have h2 := le_of_leB hb
      have h3 : s.size = s.data.toList.length := by simp
      exact .one _ _ (.str _ (by omega))
    · rw [Bool.not_eq_true] at hb
      rw [hb] at h; cases h
  · injection h with h; subst h; exact .one _ _ rfl
  · injection h with h; subst h; exact .one _ _ trivial
theorem ev_rel {P : Program} {E : Env P} {tm : Nat → Option A} {a : Act} (R : Rel E ok hd tm ob a.tmps w) {x : Operand} {v : A} (h : ev tm x = some v) : AR w ok hd ob (a.eval x) v := by
  cases x with
  | tmp t => exact R.tms t v h
  | const c => exact constA_rel h
  | func f =>
    simp only [ev] at h; injection h with h; subst h
    refine .one _ _ ?_
    have := Rep.fn (w := w) (ok := ok) (.func f) [] [] [] [] rfl (by simp) rfl (by simp) (by simp)
    show Rep w ok _ _
    simpa [Act.eval] using this
  | global g => cases h
end

/-- What an operation's outcome owes: in the world behind it, the state behind it. -/
def Goes (P : Program) (E : Env P) (tm : Nat → Option A) (ob : OF) (tmps : Array Value) (K : A → Obs → Prop) (o : Oper) (a : Act) (w : World) : Prop :=
  ∀ (next : Act → World → Prop) (Q : Exit → Act → World → Prop),
    (∀ av wr ok' hd' v w', K av wr → Rel E ok' hd' tm (updO ob wr) tmps w' → AR w' ok' hd' (updO ob wr) v av → next (a.put o.dst v) w') → o.wp P a w next Q
theorem updO_nil (ob : OF) : updO ob [] = ob := rfl

theorem goes_value {P : Program} {E : Env P} {tm : Nat → Option A} {ob : OF} {a : Act} {K : A → Obs → Prop} {o : Oper} {w w' : World} {v : Value} {av : A} {wr : Obs} {ok' : Nat → Prop} {hd' : HF}
    (hr : (execOp a.eval o).run P w = .ok (.value v) w') (hk : K av wr) (R : Rel E ok' hd' tm (updO ob wr) a.tmps w') (ha : AR w' ok' hd' (updO ob wr) v av) : Goes P E tm ob a.tmps K o a w := by
  intro next Q hn
  unfold Oper.wp
  rw [hr]
  exact hn av wr ok' hd' v w' hk R ha
theorem goes_skip {P : Program} {E : Env P} {tm : Nat → Option A} {ob : OF} {a : Act} {K : A → Obs → Prop} {o : Oper} {w w' : World} {wr : Obs} {ok' : Nat → Prop} {hd' : HF}
    (hr : (execOp a.eval o).run P w = .ok .skip w') (hk : K (.one .any) wr) (R : Rel E ok' hd' tm (updO ob wr) a.tmps w') : Goes P E tm ob a.tmps K o a w := by
  intro next Q hn
  unfold Oper.wp
  rw [hr]
  exact hn _ wr ok' hd' undef w' hk R (.one _ _ trivial)
end Go.TL

/- TlF -/
namespace Go.TL
open Go

/-- A function turned at one place. -/
def setF {α : Type} (f : Nat → α) (n : Nat) (x : α) : Nat → α := fun m => if m = n then x else f m
theorem setF_same {α : Type} (f : Nat → α) (n : Nat) (x : α) : setF f n x n = x := by simp [setF]
theorem setF_ne {α : Type} (f : Nat → α) (n m : Nat) (x : α) (h : m ≠ n) : setF f n x m = f m := by simp [setF, h]
theorem updO_one (ob : OF) (n : Nat) (o : Ob) : updO ob [(n, o)] = setF ob n (some o) := by
  funext m
  by_cases h : m = n
  · simp [updO, look, setF, h]
  · simp [updO, look, setF, h, Ne.symm h]

variable {P : Program} {E : Env P} {ok : Nat → Prop} {hd : HF} {tm : Nat → Option A} {ob : OF} {w : World} {tmps : Array Value}

theorem alloc_ext (w : World) (o : Obj) : Ext w (w.alloc o) :=
  ⟨rfl, rfl, rfl, by simp, fun b hb => by show (w.heap.push o)[b]? = _; rw [Array.getElem?_push, if_neg (by omega)]⟩
theorem alloc_new (w : World) (o : Obj) : (w.alloc o).heap[w.heap.size]? = some o := by show (w.heap.push o)[_]? = _; simp
theorem drew_ext (w : World) : Ext w w.drew := ⟨rfl, rfl, rfl, Nat.le_refl _, fun _ _ => rfl⟩

theorem le_new {n : Nat} (hn : ob n = none) (h : Hd) (o : Ob) : Le hd ob (setF hd n h) (setF ob n (some o)) where
  box m cs fz hm := by
    have : m ≠ n := fun e => by subst e; rw [hn] at hm; cases hm
    exact ⟨cs, fz, by rw [setF_ne _ _ _ _ this]; exact hm, by rw [setF_ne _ _ _ _ this]⟩
  row m sz es cur tags fz hm := by
    have : m ≠ n := fun e => by subst e; rw [hn] at hm; cases hm
    exact ⟨es, cur, tags, fz, by rw [setF_ne _ _ _ _ this]; exact hm, fun _ h => h, .inl ⟨rfl, by rw [setF_ne _ _ _ _ this], by rw [setF_ne _ _ _ _ this]⟩⟩

/-- A new object, in blocks that nobody has (those of 'h'), all of them behind what there was. -/
theorem Rel.newOb {n : Nat} {h : Hd} {o : Ob} {w' : World} (R : Rel E ok hd tm ob tmps w) (hn : ob n = none) (e : Ext w w')
    (hb : ∀ b, b ∈ h.own → w.heap.size ≤ b ∧ b < w'.heap.size)
    (ho : ObR w' ok (setF hd n h) (setF ob n (some o)) h o) : Rel E ok (setF hd n h) tm (setF ob n (some o)) tmps w' := by
  have le := le_new (hd := hd) hn h o
  have R' := R.ext e
  refine { okLt := R'.okLt, own := ?_, disj := ?_, obs := ?_, fr := R'.fr, ok0 := R'.ok0, okSub := R'.okSub, ownSub := ?_, nt := R'.nt, kp := R'.kp.trans le.keep, tms := ?_ }
  · intro m b hm hb'
    by_cases hmn : m = n
    · subst hmn
      rw [setF_same] at hb'
      exact ⟨fun hok => by have := R.okLt b hok; have := (hb b hb').1; omega, (hb b hb').2⟩
    · rw [setF_ne _ _ _ _ hmn] at hm hb'
      exact R'.own m b hm hb'
  · intro m k b hmk hm hk hb'
    by_cases hmn : m = n
    · have hkn : k ≠ n := fun e => hmk (hmn.trans e.symm)
      subst hmn
      rw [setF_same] at hb'
      rw [setF_ne _ _ _ _ hkn] at hk ⊢
      intro hb2
      have := (R.own k b hk hb2).2; have := (hb b hb').1; omega
    · rw [setF_ne _ _ _ _ hmn] at hm hb'
      by_cases hkn : k = n
      · subst hkn
        rw [setF_same]
        intro hb2
        have := (R.own m b hm hb').2; have := (hb b hb2).1; omega
      · rw [setF_ne _ _ _ _ hkn] at hk ⊢
        exact R'.disj m k b hmk hm hk hb'
  · intro m o' hm
    by_cases hmn : m = n
    · subst hmn
      rw [setF_same] at hm ⊢
      injection hm with hm; subst hm
      exact ho
    · rw [setF_ne _ _ _ _ hmn] at hm ⊢
      exact (R'.obs m o' hm).mono (fun _ h => h) (fun _ _ => rfl) (fun _ _ => rfl) le
  · intro m b hm hb'
    by_cases hmn : m = n
    · subst hmn
      rw [setF_same] at hb'
      have := (hb b hb').1; have := R.fr.size; exact .inl (by omega)
    · rw [setF_ne _ _ _ _ hmn] at hm hb'
      exact R'.ownSub m b hm hb'
  · exact fun t x hx => (R'.tms t x hx).mono (fun _ h => h) (fun _ _ => rfl) le

theorem Rep.cells {v : Value} {t : T} (h : Rep w ok v t) : v.cells = #[v] := by cases h <;> rfl
theorem VR.cells {v : Value} {c : V} (h : VR w ok hd ob v c) (hc : c ≠ .any) : v.cells = #[v] := by
  cases c with
  | t c => exact Rep.cells h
  | nil => cases h; rfl
  | row o g => obtain ⟨_, _, _, _, _, _, _, ⟨_, _, _, rfl⟩, _⟩ := h; rfl
  | ptr o off => obtain ⟨_, _, _, _, _, rfl⟩ := h; rfl
  | elt o g i j => obtain ⟨_, _, _, _, _, _, _, ⟨_, rfl⟩, _⟩ := h; rfl
  | fn f first caps => obtain ⟨_, _, rfl, _⟩ := h; rfl
  | bsl o n sz => obtain ⟨_, _, _, _, _, rfl, _⟩ := h; rfl
  | part o g i j => obtain ⟨_, _, _, _, _, _, _, ⟨_, _, _, rfl⟩, _⟩ := h; rfl
  | sub o g i j => obtain ⟨_, _, _, _, _, _, _, ⟨_, _, _, rfl⟩, _⟩ := h; rfl
  | selt o g i j k => obtain ⟨_, _, _, _, _, _, _, ⟨_, rfl⟩, _⟩ := h; rfl
  | any => exact absurd rfl hc
theorem AR.cells {v : Value} {av : A} {vs : List V} (h : AR w ok hd ob v av) (hc : av.cells = some vs) : v.cells.size = vs.length ∧ ∀ (j : Nat) c x, v.cells[j]? = some c → vs[j]? = some x → VR w ok hd ob c x := by
  cases h with
  | one v c h =>
    have hne : c ≠ .any := by intro e; subst e; cases hc
    have hc' : some [c] = some vs := by cases c <;> first | exact hc | exact absurd rfl hne
    injection hc' with hc'; subst hc'
    rw [h.cells hne]
    refine ⟨rfl, fun j c' x hj hx => ?_⟩
    cases j with
    | zero => simp at hj hx; subst hj; subst hx; exact h
    | succ j => simp at hx
  | agg cs vs' hl h =>
    simp only [A.cells] at hc; injection hc with hc; subst hc
    exact ⟨by simp [Value.cells, hl], fun j c x hj hx => h j c x (by simpa [Value.cells] using hj) hx⟩
  | tup xs as hl h => cases hc

end Go.TL

/- TlG -/
namespace Go.TL
open Go

variable {P : Program} {E : Env P} {ok : Nat → Prop} {hd : HF} {tm : Nat → Option A} {ob : OF} {w : World} {a : Act} {K : A → Obs → Prop} {o : Oper} {tab : TF} {cl : Nat → List A → Obs → (A → Obs → Prop) → Prop}

theorem Rel.toNil (R : Rel E ok hd tm ob a.tmps w) : Rel E ok hd tm (updO ob []) a.tmps w := R

theorem op_same {x : Operand} (R : Rel E ok hd tm ob a.tmps w) (hr : (execOp a.eval o).run P w = .ok (.value (a.eval x)) w) (h : (SR.ofOpt (ev tm x)).holds std cl K) : Goes P E tm ob a.tmps K o a w := by
  cases hv : ev tm x with
  | none => rw [hv] at h; exact h.elim
  | some v => rw [hv] at h; exact goes_value hr h R (ev_rel R hv)
theorem op_move {x : Operand} (ho : o.op = .move x) (R : Rel E ok hd tm ob a.tmps w) (h : (SR.ofOpt (ev tm x)).holds std cl K) : Goes P E tm ob a.tmps K o a w :=
  op_same (x := x) R (by simp [execOp, ho]) h
theorem op_assign {x : Operand} (ho : o.op = .assign x) (R : Rel E ok hd tm ob a.tmps w) (h : (SR.ofOpt (ev tm x)).holds std cl K) : Goes P E tm ob a.tmps K o a w :=
  op_same (x := x) R (by simp [execOp, ho]) h

theorem ev_bool (R : Rel E ok hd tm ob a.tmps w) {c : Operand} {b : Bool} (h : ev tm c = some (.one (.t (.bool b)))) : a.eval c = .bool b := (ev_rel R h).one_inv.bool_inv
theorem ev_int (R : Rel E ok hd tm ob a.tmps w) {c : Operand} {k : IntKind} {n : Int} (h : ev tm c = some (.one (.t (.int k n)))) : a.eval c = .int k n ∧ k.has n := (ev_rel R h).one_inv.int_inv
theorem ev_str (R : Rel E ok hd tm ob a.tmps w) {c : Operand} {s : List UInt8} (h : ev tm c = some (.one (.t (.str s)))) : ∃ b : ByteArray, a.eval c = .string b ∧ b.data.toList = s ∧ b.size ≤ 2 ^ 63 - 1 := (ev_rel R h).one_inv.str_inv

theorem op_pick {c x y : Operand} (ho : o.op = .pick c x y) (R : Rel E ok hd tm ob a.tmps w)
    (h : (match ev tm c with | some (.one (.t (.bool b))) => SR.br b (.ofOpt (ev tm x)) (.ofOpt (ev tm y)) | _ => .bad).holds std cl K) : Goes P E tm ob a.tmps K o a w := by
  split at h
  · rename_i b hb
    have hc := ev_bool R hb
    cases b with
    | true => exact op_same (x := x) R (by simp [execOp, ho, hc, asBool]) h
    | false => exact op_same (x := y) R (by simp [execOp, ho, hc, asBool]) h
  · exact h.elim

/-! New blocks -/
theorem tz (hT : TabOk P tab) {t : Nat} {ti : TI} {z : List V} (h : tab t = some ti) (hz : ti.zero = some z) : ∃ zv : Value, (zeroValue t).run P w = .ok zv w ∧ zv.cells.size = z.length ∧ z.length = ti.size ∧ ∀ (j : Nat) v x, zv.cells[j]? = some v → z[j]? = some x → zeroR v x := by
  obtain ⟨i, hi, _, _, h4⟩ := (hT t ti h).info
  obtain ⟨zv, h5, h6, h7, h8⟩ := h4 z hz
  exact ⟨zv, by simp [zeroValue, typeInfo, hi, h5], h6, h7, h8⟩

theorem rel_box {n : Nat} {c : Array Value} {e : TypeId} {cs : List V} (R : Rel E ok hd tm ob a.tmps w) (hn : ob n = none) (hl : c.size = cs.length)
    (hv : ∀ (j : Nat) v x, c[j]? = some v → cs[j]? = some x → VR w ok hd ob v x) :
    Rel E ok (setF hd n (hdOf (.pointer (some ⟨w.heap.size, 0, none⟩)) [w.heap.size])) tm (setF ob n (some (.box cs false))) a.tmps (w.alloc (.cells c e (0, 0))) := by
  refine R.newOb hn (alloc_ext _ _) (fun b hb => by simp at hb; subst hb; simp) ?_
  refine ⟨w.heap.size, c, e, (0, 0), rfl, rfl, by simp, alloc_new _ _, .inl rfl, hl, fun j v x hj hx => ?_⟩
  exact (hv j v x hj hx).mono (fun _ h => h) (fun b hb => (alloc_ext w _).block b (R.okLt b hb)) (le_new hn _ _)

theorem op_alloc {t n : Nat} (ho : o.op = .alloc t) (hT : TabOk P tab) (R : Rel E ok hd tm ob a.tmps w)
    (h : (match tab t with | some ti => (match ti.zero with | some z => SR.new ob n (.box z false) (.one (.ptr n 0)) | none => .bad) | none => .bad).holds std cl K) : Goes P E tm ob a.tmps K o a w := by
  split at h
  · rename_i ti hti
    split at h
    · rename_i z hz
      unfold SR.new at h
      split at h
      · rename_i hn
        obtain ⟨zv, h1, h2, h3, h4⟩ := tz (w := w) hT hti hz
        have R' := rel_box (e := t) (c := zv.cells) R hn h2 fun j v x hj hx => (h4 j v x hj hx).vr _ _ _ _
        refine goes_value (ok' := ok) (w' := w.alloc (.cells zv.cells t (0, 0))) (v := .pointer (some ⟨w.heap.size, 0, none⟩)) ?_ h (by rw [updO_one]; exact R') ?_
        · simp [execOp, ho, Instr.alloc, h1, newVar, newRow]
        · rw [updO_one]
          exact .one _ _ ⟨z, false, w.heap.size, setF_same _ _ _, by rw [setF_same], rfl⟩
      · exact h.elim
    · exact h.elim
  · exact h.elim

theorem op_box {t n : Nat} {x : Operand} (ho : o.op = .box t x) (R : Rel E ok hd tm ob a.tmps w)
    (h : (match tab t, ev tm x with | some ti, some av => (match av.cells with | some vs => bif eqB vs.length ti.size then SR.new ob n (.box vs false) (.one (.ptr n 0)) else .bad | none => .bad) | _, _ => .bad).holds std cl K) : Goes P E tm ob a.tmps K o a w := by
  split at h
  · rename_i ti av hti hav
    split at h
    · rename_i vs hvs
      by_cases hb : eqB vs.length ti.size = true
      · rw [hb] at h
        simp only [cond_true] at h
        unfold SR.new at h
        split at h
        · rename_i hn
          have ha := ev_rel R hav
          obtain ⟨h2, h4⟩ := ha.cells hvs
          have R' := rel_box (e := t) (c := (a.eval x).cells) R hn h2 fun j v x hj hx => h4 j v x hj hx
          refine goes_value (ok' := ok) (w' := w.alloc (.cells (a.eval x).cells t (0, 0))) (v := .pointer (some ⟨w.heap.size, 0, none⟩)) ?_ h (by rw [updO_one]; exact R') ?_
          · simp [execOp, ho, Instr.box, newVar, newRow]
          · rw [updO_one]
            exact .one _ _ ⟨vs, false, w.heap.size, setF_same _ _ _, by rw [setF_same], rfl⟩
        · exact h.elim
      · rw [Bool.not_eq_true] at hb; rw [hb] at h; exact h.elim
    · exact h.elim
  · exact h.elim

/-! Numbers -/
theorem wrap_has (k : IntKind) (n : Int) : k.has (k.wrap n) := by
  cases k <;> simp [IntKind.has, IntKind.wrap, IntKind.min, IntKind.max, IntKind.signed, IntKind.bits] <;> (try split) <;> omega
theorem wrap_id {k : IntKind} {n : Int} (h : k.has n) : k.wrap n = n := by
  cases k <;> simp [IntKind.has, IntKind.wrap, IntKind.min, IntKind.max, IntKind.signed, IntKind.bits] at h ⊢ <;> (try split) <;> omega

end Go.TL
