/-
  A runner of the model's code inside Lean, with the proof that it is right: values, states, closures, what they stand for. Nothing here is of this program.
-/
import Derived.WalkKit
import Derived.WalkSpells
import Derived.WalkLawsBesides
import Derived.Laws.BytesArg
import Derived.Laws.IdiomStrings
import Derived.Deep.AppendSrc
import Derived.BigQuiet
import Derived.Laws.Build
import Derived.Laws.CopyOwn
import Derived.Below
import Derived.IntWalk
namespace Go.Exec
open Go
structure N8 (α : Type) where
  a : α
  b : α
  c : α
  d : α
  e : α
  f : α
  g : α
  h : α
abbrev E (α : Type) : Nat → Type := fun d => Nat.rec (motive := fun _ => Type) α (fun _ T => N8 T) d
structure Cl (α : Type) where
  f : α
noncomputable def sel8 {β : Type} (q : Nat) (a b c d e f g h : β) : β :=
  Bool.rec (Bool.rec (Bool.rec h g (Nat.beq q 6)) (Bool.rec f e (Nat.beq q 4)) (Nat.ble q 5))
    (Bool.rec (Bool.rec d c (Nat.beq q 2)) (Bool.rec b a (Nat.beq q 0)) (Nat.ble q 1)) (Nat.ble q 3)
noncomputable def acc {α : Type} (d : Nat) : Nat → Cl (E α d → α) :=
  Nat.rec (motive := fun d => Nat → Cl (E α d → α)) (fun _ => ⟨fun t => t⟩)
    (fun _ ih i => sel8 (Nat.mod i 8) ⟨fun t => (ih (Nat.div i 8)).f t.a⟩ ⟨fun t => (ih (Nat.div i 8)).f t.b⟩ ⟨fun t => (ih (Nat.div i 8)).f t.c⟩ ⟨fun t => (ih (Nat.div i 8)).f t.d⟩
      ⟨fun t => (ih (Nat.div i 8)).f t.e⟩ ⟨fun t => (ih (Nat.div i 8)).f t.f⟩ ⟨fun t => (ih (Nat.div i 8)).f t.g⟩ ⟨fun t => (ih (Nat.div i 8)).f t.h⟩) d
noncomputable def upd {α : Type} (d : Nat) : Nat → Cl (α → E α d → E α d) :=
  Nat.rec (motive := fun d => Nat → Cl (α → E α d → E α d)) (fun _ => ⟨fun x _ => x⟩)
    (fun _ ih i => sel8 (Nat.mod i 8)
      ⟨fun x t => ⟨(ih (Nat.div i 8)).f x t.a, t.b, t.c, t.d, t.e, t.f, t.g, t.h⟩⟩
      ⟨fun x t => ⟨t.a, (ih (Nat.div i 8)).f x t.b, t.c, t.d, t.e, t.f, t.g, t.h⟩⟩
      ⟨fun x t => ⟨t.a, t.b, (ih (Nat.div i 8)).f x t.c, t.d, t.e, t.f, t.g, t.h⟩⟩
      ⟨fun x t => ⟨t.a, t.b, t.c, (ih (Nat.div i 8)).f x t.d, t.e, t.f, t.g, t.h⟩⟩
      ⟨fun x t => ⟨t.a, t.b, t.c, t.d, (ih (Nat.div i 8)).f x t.e, t.f, t.g, t.h⟩⟩
      ⟨fun x t => ⟨t.a, t.b, t.c, t.d, t.e, (ih (Nat.div i 8)).f x t.f, t.g, t.h⟩⟩
      ⟨fun x t => ⟨t.a, t.b, t.c, t.d, t.e, t.f, (ih (Nat.div i 8)).f x t.g, t.h⟩⟩
      ⟨fun x t => ⟨t.a, t.b, t.c, t.d, t.e, t.f, t.g, (ih (Nat.div i 8)).f x t.h⟩⟩) d
noncomputable def emp {α : Type} (z : α) (d : Nat) : E α d := Nat.rec (motive := fun d => E α d) z (fun _ t => ⟨t, t, t, t, t, t, t, t⟩) d
noncomputable def tab {α : Type} (d : Nat) : (Nat → α) → E α d :=
  Nat.rec (motive := fun d => (Nat → α) → E α d) (fun f => f 0)
    (fun _ ih f => ⟨ih (fun i => f (Nat.mul 8 i)), ih (fun i => f (Nat.add (Nat.mul 8 i) 1)), ih (fun i => f (Nat.add (Nat.mul 8 i) 2)), ih (fun i => f (Nat.add (Nat.mul 8 i) 3)), ih (fun i => f (Nat.add (Nat.mul 8 i) 4)), ih (fun i => f (Nat.add (Nat.mul 8 i) 5)), ih (fun i => f (Nat.add (Nat.mul 8 i) 6)), ih (fun i => f (Nat.add (Nat.mul 8 i) 7))⟩) d

theorem mod8_cases (i : Nat) : i % 8 = 0 ∨ i % 8 = 1 ∨ i % 8 = 2 ∨ i % 8 = 3 ∨ i % 8 = 4 ∨ i % 8 = 5 ∨ i % 8 = 6 ∨ i % 8 = 7 := by omega
theorem acc_upd_same {α : Type} (x : α) : ∀ (d i : Nat) (t : E α d), (acc d i).f ((upd d i).f x t) = x := by
  intro d
  induction d with
  | zero => intro i t; rfl
  | succ d ih =>
    intro i t
    have h : ∀ q, Nat.mod i 8 = q → (q = 0 ∨ q = 1 ∨ q = 2 ∨ q = 3 ∨ q = 4 ∨ q = 5 ∨ q = 6 ∨ q = 7) → (acc (d+1) i).f ((upd (d+1) i).f x t) = x := by
      rintro q hq hc
      simp only [acc, upd, hq]
      rcases hc with rfl | rfl | rfl | rfl | rfl | rfl | rfl | rfl <;> exact ih (i / 8) _
    exact h _ rfl (mod8_cases i)
theorem acc_upd_ne {α : Type} (x : α) : ∀ (d i j : Nat) (t : E α d), i < 8 ^ d → j < 8 ^ d → i ≠ j → (acc d j).f ((upd d i).f x t) = (acc d j).f t := by
  intro d
  induction d with
  | zero => intro i j t hi hj hne; simp at hi hj; omega
  | succ d ih =>
    intro i j t hi hj hne
    have hi8 : i / 8 < 8 ^ d := by rw [Nat.pow_succ] at hi; omega
    have hj8 : j / 8 < 8 ^ d := by rw [Nat.pow_succ] at hj; omega
    have h : ∀ p q, Nat.mod i 8 = p → Nat.mod j 8 = q → (p = q → i / 8 ≠ j / 8) → (p = 0 ∨ p = 1 ∨ p = 2 ∨ p = 3 ∨ p = 4 ∨ p = 5 ∨ p = 6 ∨ p = 7) → (q = 0 ∨ q = 1 ∨ q = 2 ∨ q = 3 ∨ q = 4 ∨ q = 5 ∨ q = 6 ∨ q = 7) → (acc (d+1) j).f ((upd (d+1) i).f x t) = (acc (d+1) j).f t := by
      rintro p q hp hq hpq hc hd
      simp only [acc, upd, hp, hq]
      rcases hc with rfl | rfl | rfl | rfl | rfl | rfl | rfl | rfl <;> rcases hd with rfl | rfl | rfl | rfl | rfl | rfl | rfl | rfl <;>
        first | rfl | exact ih (i / 8) (j / 8) _ hi8 hj8 (hpq rfl)
    refine h _ _ rfl rfl (fun he => ?_) (mod8_cases i) (mod8_cases j)
    have : i % 8 = j % 8 := he
    omega
theorem acc_emp {α : Type} (z : α) : ∀ (d i : Nat), (acc d i).f (emp z d) = z := by
  intro d
  induction d with
  | zero => intro i; rfl
  | succ d ih =>
    intro i
    have h : ∀ q, Nat.mod i 8 = q → (q = 0 ∨ q = 1 ∨ q = 2 ∨ q = 3 ∨ q = 4 ∨ q = 5 ∨ q = 6 ∨ q = 7) → (acc (d+1) i).f (emp z (d+1)) = z := by
      rintro q hq hc
      simp only [acc, emp, hq]
      rcases hc with rfl | rfl | rfl | rfl | rfl | rfl | rfl | rfl <;> exact ih (i / 8)
    exact h _ rfl (mod8_cases i)
theorem acc_tab {α : Type} : ∀ (d i : Nat) (f : Nat → α), i < 8 ^ d → (acc d i).f (tab d f) = f i := by
  intro d
  induction d with
  | zero => intro i f hi; simp at hi; subst hi; rfl
  | succ d ih =>
    intro i f hi
    have hi8 : i / 8 < 8 ^ d := by rw [Nat.pow_succ] at hi; omega
    have h : ∀ q, Nat.mod i 8 = q → (q = 0 ∨ q = 1 ∨ q = 2 ∨ q = 3 ∨ q = 4 ∨ q = 5 ∨ q = 6 ∨ q = 7) → (acc (d+1) i).f (tab (d+1) f) = f i := by
      rintro q hq hc
      have hdm : 8 * (i / 8) + q = i := by have := Nat.div_add_mod i 8; rw [show i % 8 = q from hq] at this; exact this
      simp only [acc, tab, hq]
      rcases hc with rfl | rfl | rfl | rfl | rfl | rfl | rfl | rfl <;> exact (ih (i / 8) _ hi8).trans (congrArg f hdm)
    exact h _ rfl (mod8_cases i)

noncomputable def force {β : Type} (n : Nat) (K : Nat → β) (z : β) : β := Nat.rec (motive := fun _ => β) z (fun m _ => K m) (Nat.add n 1)
theorem force_eq {β : Type} (n : Nat) (K : Nat → β) (z : β) : force n K z = K n := rfl
end Go.Exec

namespace Go.Exec
open Go
set_option linter.unusedVariables false
/-- A scalar: tag 0 unknown; 1 bool (a); 2 string (a length, b its bytes as a number); 3 nil pointer; 4 pointer (a name, b offset); 5 nil slice; 6 slice (a name, b offset, c length, d capacity);
 7 function (a, xs first, ys captured); 8 nil function; 9 interface (a type, xs value); 10 nil interface; 12 slice of unknown capacity (d elements ahead of it); 16 to 23 ints (a residue); 24 a variable (a number, b kind); 25 some int (b kind); 98, 99 no scalar. -/
structure Sc where
  tag : Nat
  a : Nat
  b : Nat
  c : Nat
  d : Nat
  xs : List Sc
  ys : List Sc
noncomputable def sc0 : Sc := ⟨0, 0, 0, 0, 0, [], []⟩
structure Cells where
  lo : N8 Sc
  hi : E Sc 5
noncomputable def cells0 : Cells := ⟨emp (α := Sc) sc0 1, emp (α := Sc) sc0 5⟩
structure V where
  s : Sc
  cs : Cells
  vs : List V
noncomputable def accC (i : Nat) : Cl (Cells → Sc) := Bool.rec ⟨fun c => (acc (α := Sc) 5 i).f c.hi⟩ ⟨fun c => (acc (α := Sc) 1 i).f c.lo⟩ (Nat.ble i 7)
noncomputable def updC (i : Nat) : Cl (Sc → Cells → Cells) := Bool.rec ⟨fun x c => ⟨c.lo, (upd (α := Sc) 5 i).f x c.hi⟩⟩ ⟨fun x c => ⟨(upd (α := Sc) 1 i).f x c.lo, c.hi⟩⟩ (Nat.ble i 7)
noncomputable def tabC (f : Nat → Sc) : Cells := ⟨tab (α := Sc) 1 f, tab (α := Sc) 5 f⟩
structure Blk where
  size : Nat
  elem : Nat
  cs : Cells
noncomputable def blk0 : Blk := ⟨0, 0, cells0⟩
structure St where
  heap : E Blk 5
  next : Nat
  ds : List (Nat × List V)
abbrev Env := E V 3
inductive Ans where
  | no
  | ok (v : V) (S : St)
abbrev Caller := Nat → List V → St → Ans

noncomputable def vS (s : Sc) : V := ⟨s, cells0, []⟩
noncomputable def mkI (tag n : Nat) : V := ⟨⟨tag, n, 0, 0, 0, [], []⟩, cells0, []⟩
noncomputable def vT : V := vS ⟨1, 1, 0, 0, 0, [], []⟩
noncomputable def vF : V := vS ⟨1, 0, 0, 0, 0, [], []⟩
noncomputable def mkTup (vs : List V) : V := ⟨⟨99, 0, 0, 0, 0, [], []⟩, cells0, vs⟩
noncomputable def undefV : V := ⟨⟨99, 0, 0, 0, 0, [], []⟩, cells0, []⟩
noncomputable def mkAgg (n : Nat) (c : Cells) : V := ⟨⟨98, n, 0, 0, 0, [], []⟩, c, []⟩
noncomputable def mkP (n o : Nat) : V := vS ⟨4, n, o, 0, 0, [], []⟩
noncomputable def mkSl (n o len cap : Nat) : V := vS ⟨6, n, o, len, cap, [], []⟩
noncomputable def mkSu (n o len d : Nat) : V := vS ⟨12, n, o, len, d, [], []⟩

def kcode : IntKind → Nat | .i8 => 16 | .i16 => 17 | .i32 => 18 | .i64 => 19 | .u8 => 20 | .u16 => 21 | .u32 => 22 | .u64 => 23
def kmod : IntKind → Nat | .i8 => 256 | .u8 => 256 | .i16 => 65536 | .u16 => 65536 | .i32 => 4294967296 | .u32 => 4294967296 | .i64 => 18446744073709551616 | .u64 => 18446744073709551616
def khalf : IntKind → Nat | .i8 => 128 | .i16 => 32768 | .i32 => 2147483648 | .i64 => 9223372036854775808 | _ => 0

def strOf : List UInt8 → Nat := fun bs => bs.foldr (fun b acc => b.toNat + 256 * acc) 0
noncomputable def liftS : Value → Option Sc
  | .bool b => some ⟨1, cond b 1 0, 0, 0, 0, [], []⟩
  | .int k n => if k.wrap n = n then some ⟨kcode k, (n % (kmod k : Int)).toNat, 0, 0, 0, [], []⟩ else none
  | .string s => some ⟨2, s.data.toList.length, strOf s.data.toList, 0, 0, [], []⟩
  | .pointer none => some ⟨3, 0, 0, 0, 0, [], []⟩
  | .slice none 0 0 => some ⟨5, 0, 0, 0, 0, [], []⟩
  | .nilFunc => some ⟨8, 0, 0, 0, 0, [], []⟩
  | .nilIface => some ⟨10, 0, 0, 0, 0, [], []⟩
  | _ => none
noncomputable def liftL : List Value → Nat → Cells → Option Cells
  | [], _, c => some c
  | v :: vs, i, c => match liftS v with | some s => liftL vs (Nat.add i 1) ((updC i).f s c) | none => none
noncomputable def lift : Value → Option V
  | .agg cs => if cs.size ≤ 32768 then (match liftL cs.toList 0 cells0 with | some c => some (mkAgg cs.size c) | none => none) else none
  | .tuple vs => (match vs.toList with | [] => some undefV | _ => none)
  | v => match liftS v with | some s => some (vS s) | none => none

noncomputable def badV : V := vS ⟨100, 0, 0, 0, 0, [], []⟩
noncomputable def opd (N : Nat) (x : Operand) : Cl (Env → V) :=
  match x with
  | .tmp t => Bool.rec ⟨fun _ => undefV⟩ ⟨(acc (α := V) 3 t).f⟩ (Nat.blt t N)
  | .const v => match lift v with | some v => ⟨fun _ => v⟩ | none => ⟨fun _ => badV⟩
  | .global g => Bool.rec (motive := fun _ => Cl (Env → V)) ⟨fun _ => badV⟩ ⟨fun _ => mkP g 0⟩ (Nat.blt g 256)
  | .func f => ⟨fun _ => vS ⟨7, f, 0, 0, 0, [], []⟩⟩
noncomputable def opds (N : Nat) (xs : List Operand) : Cl (Env → List V) :=
  match xs with
  | [] => ⟨fun _ => []⟩
  | x :: r => ⟨fun A => (opd N x).f A :: (opds N r).f A⟩
abbrev OpC := Cl (Caller → Env → St → Ans)
noncomputable def bad : OpC := ⟨fun _ _ _ => .no⟩
noncomputable def chk (b : Bool) (k : Ans) : Ans := Bool.rec (motive := fun _ => Ans) .no k b
noncomputable def iff (b : Bool) (x y : Ans) : Ans := Bool.rec (motive := fun _ => Ans) y x b
/-- What is known of ints that are not plain numbers: variables (tag 24), ints of which only the kind is known (tag 25). -/
structure Hy where
  bin : BinOp → IntKind → Sc → Sc → Option Sc
  sh : BinOp → IntKind → Sc → Nat → Option Sc
  conv : IntKind → IntKind → Sc → Option Sc
  neg : IntKind → Sc → Option Sc
/-- an int of a kind, plain or not -/
noncomputable def isIk (k : IntKind) (s : Sc) : Bool := Bool.or (Nat.beq s.tag (kcode k)) (Bool.and (Bool.and (Nat.ble 24 s.tag) (Nat.ble s.tag 25)) (Nat.beq s.b (kcode k)))
noncomputable def symR (r : Option Sc) (S : St) : Ans := Option.rec (motive := fun _ => Ans) .no (fun s => .ok (vS s) S) r
/-- both operands are ints of a kind, or the first a variable -/
noncomputable def both (H : Hy) (N : Nat) (op : BinOp) (k : IntKind) (x y : Operand) (g : Nat → Nat → St → Ans) : OpC :=
  ⟨fun _ A S => iff (Bool.and (Nat.beq ((opd N x).f A).s.tag (kcode k)) (Nat.beq ((opd N y).f A).s.tag (kcode k))) (g ((opd N x).f A).s.a ((opd N y).f A).s.a S)
    (chk (Bool.and (isIk k ((opd N x).f A).s) (isIk k ((opd N y).f A).s)) (symR (H.bin op k ((opd N x).f A).s ((opd N y).f A).s) S))⟩
noncomputable def okI (k : IntKind) (n : Nat) (S : St) : Ans := force n (fun n => .ok (mkI (kcode k) n) S) .no
noncomputable def okB (b : Bool) (S : St) : Ans := iff b (.ok vT S) (.ok vF S)
noncomputable def bias (k : IntKind) (n : Nat) : Nat := Nat.mod (Nat.add n (khalf k)) (kmod k)
noncomputable def toI (k : IntKind) (n : Nat) : Int := Bool.rec (motive := fun _ => Int) (Int.sub n (kmod k)) (Int.ofNat n) (Bool.or (Nat.beq (khalf k) 0) (Nat.blt n (khalf k)))
noncomputable def ofI (k : IntKind) (n : Int) : Nat := (n % (kmod k : Int)).toNat
noncomputable def posBoth (k : IntKind) (a b : Nat) : Bool := Bool.and (Nat.blt a (Nat.div (kmod k) 2)) (Nat.blt b (Nat.div (kmod k) 2))
noncomputable def shlN (k : IntKind) (a s : Nat) : Nat := Nat.mod (Nat.mul a (Nat.pow 2 (Nat.min s k.bits))) (kmod k)
noncomputable def shrN (k : IntKind) (a s : Nat) : Nat := Bool.rec (motive := fun _ => Nat) (ofI k (Int.fdiv (toI k a) (Int.ofNat (Nat.pow 2 (Nat.min s k.bits))))) (Nat.div a (Nat.pow 2 (Nat.min s k.bits))) (Bool.or (Nat.beq (khalf k) 0) (Nat.blt a (khalf k)))
noncomputable def shiftC (H : Hy) (N : Nat) (op : BinOp) (k : IntKind) (g : IntKind → Nat → Nat → Nat) (x y : Operand) : OpC :=
  ⟨fun _ A S => chk (Bool.and (Bool.and (Nat.ble 16 ((opd N y).f A).s.tag) (Nat.ble ((opd N y).f A).s.tag 23)) (Nat.ble ((opd N y).f A).s.a 127)) (iff (Nat.beq ((opd N x).f A).s.tag (kcode k)) (okI k (g k ((opd N x).f A).s.a ((opd N y).f A).s.a) S)
    (chk (isIk k ((opd N x).f A).s) (symR (H.sh op k ((opd N x).f A).s ((opd N y).f A).s.a) S)))⟩
noncomputable def intC (H : Hy) (N : Nat) (k : IntKind) (op : BinOp) (x y : Operand) : OpC :=
  match op with
  | .add => both H N .add k x y (fun a b S => okI k (Nat.mod (Nat.add a b) (kmod k)) S)
  | .sub => both H N .sub k x y (fun a b S => okI k (Nat.mod (Nat.sub (Nat.add a (kmod k)) b) (kmod k)) S)
  | .mul => both H N .mul k x y (fun a b S => okI k (Nat.mod (Nat.mul a b) (kmod k)) S)
  | .and => both H N .and k x y (fun a b S => okI k (Nat.land a b) S)
  | .or => both H N .or k x y (fun a b S => okI k (Nat.lor a b) S)
  | .xor => both H N .xor k x y (fun a b S => okI k (Nat.xor a b) S)
  | .andNot => both H N .andNot k x y (fun a b S => okI k (Nat.land a (Nat.sub (Nat.sub (kmod k) 1) b)) S)
  | .quo => both H N .quo k x y (fun a b S => chk (Bool.and (Nat.ble 1 b) (posBoth k a b)) (okI k (Nat.div a b) S))
  | .rem => both H N .rem k x y (fun a b S => chk (Bool.and (Nat.ble 1 b) (posBoth k a b)) (okI k (Nat.mod a b) S))
  | .shl => shiftC H N .shl k shlN x y
  | .shr => shiftC H N .shr k shrN x y
  | .eql => both H N .eql k x y (fun a b S => okB (Nat.beq a b) S)
  | .neq => both H N .neq k x y (fun a b S => okB (Bool.not (Nat.beq a b)) S)
  | .lss => both H N .lss k x y (fun a b S => okB (Nat.blt (bias k a) (bias k b)) S)
  | .leq => both H N .leq k x y (fun a b S => okB (Nat.ble (bias k a) (bias k b)) S)
  | .gtr => both H N .gtr k x y (fun a b S => okB (Nat.blt (bias k b) (bias k a)) S)
  | .geq => both H N .geq k x y (fun a b S => okB (Nat.ble (bias k b) (bias k a)) S)
/-- are two scalars equal: 1 yes, 0 no, 2 not said -/
noncomputable def eqS (a b : Sc) : Nat :=
  Bool.rec (motive := fun _ => Nat)
    (Bool.rec (motive := fun _ => Nat) 2 0 (Bool.or (Bool.or (Bool.and (Nat.beq a.tag 3) (Nat.beq b.tag 4)) (Bool.and (Nat.beq a.tag 4) (Nat.beq b.tag 3)))
      (Bool.or (Bool.and (Nat.beq a.tag 5) (Bool.or (Nat.beq b.tag 6) (Nat.beq b.tag 12))) (Bool.and (Bool.or (Nat.beq a.tag 6) (Nat.beq a.tag 12)) (Nat.beq b.tag 5)))))
    (Bool.rec (motive := fun _ => Nat)
      (Bool.rec (motive := fun _ => Nat) (Bool.rec (motive := fun _ => Nat) 2 1 (Bool.or (Nat.beq a.tag 3) (Nat.beq a.tag 5)))
        (Bool.rec (motive := fun _ => Nat) 0 1 (Bool.and (Nat.beq a.a b.a) (Nat.beq a.b b.b))) (Nat.beq a.tag 2))
      (Bool.rec (motive := fun _ => Nat) 0 1 (Nat.beq a.a b.a))
      (Bool.or (Bool.and (Nat.ble 16 a.tag) (Nat.ble a.tag 23)) (Nat.beq a.tag 1)))
    (Nat.beq a.tag b.tag)
end Go.Exec

namespace Go.Exec
open Go
set_option linter.unusedVariables false
noncomputable def desc (P : Program) (t : TypeId) : TypeDesc := match P.underlying t with | some d => d | none => .invalid
noncomputable def isAggT (P : Program) (t : TypeId) : Bool := match desc P t with | .struct _ => true | .array _ _ => true | _ => false
noncomputable def sizeT (P : Program) (t : TypeId) : Nat := match P.info? t with | some i => i.size | none => 0
noncomputable def bytesT (P : Program) (t : TypeId) : Nat := match P.info? t with | some i => i.bytes | none => 0
noncomputable def zeroT (P : Program) (t : TypeId) : Option V := match P.info? t with | some i => (match i.zero with | some v => lift v | none => none) | none => none
noncomputable def accH (n : Nat) : Cl (E Blk 5 → Blk) := acc (α := Blk) 5 n
noncomputable def updH (n : Nat) : Cl (Blk → E Blk 5 → E Blk 5) := upd (α := Blk) 5 n
noncomputable def getB (n : Nat) : Cl (St → Blk) := ⟨fun S => (accH n).f S.heap⟩
noncomputable def putB (n : Nat) : Cl (Blk → St → St) := ⟨fun B S => ⟨(updH n).f B S.heap, S.next, S.ds⟩⟩
noncomputable def one (s : Sc) : Cells := ⟨⟨s, sc0, sc0, sc0, sc0, sc0, sc0, sc0⟩, emp (α := Sc) sc0 5⟩
noncomputable def cellsOf (v : V) : Cells := Bool.rec (motive := fun _ => Cells) (one v.s) v.cs (Nat.beq v.s.tag 98)
noncomputable def newB (S : St) (size elem : Nat) (cs : Cells) (K : Nat → St → Ans) : Ans :=
  chk (Bool.and (Nat.ble size 32768) (Nat.blt S.next 32768)) (force size (fun z => force S.next (fun n => K n ⟨(updH n).f ⟨z, elem, cs⟩ S.heap, Nat.add n 1, S.ds⟩) .no) .no)
/-- a value that fits a type: one cell, or so many -/
noncomputable def fits (P : Program) (t : TypeId) : Cl (V → Bool) := Bool.rec ⟨fun v => Nat.ble v.s.tag 97⟩ ⟨fun v => Bool.and (Nat.beq v.s.tag 98) (Nat.beq v.s.a (sizeT P t))⟩ (isAggT P t)
/-- a type of one cell has one -/
noncomputable def unit (P : Program) (t : TypeId) : Bool := Bool.rec (motive := fun _ => Bool) (Nat.beq (sizeT P t) 1) true (isAggT P t)
noncomputable def allocC (P : Program) (e : TypeId) : OpC :=
  match zeroT P e with
  | some z => Bool.rec (motive := fun _ => OpC) bad ⟨fun _ _ S => newB S (sizeT P e) e (cellsOf z) (fun n S => .ok (mkP n 0) S)⟩ (Bool.and (unit P e) ((fits P e).f z))
  | none => bad
noncomputable def boxC (P : Program) (N : Nat) (e : TypeId) (x : Operand) : OpC :=
  Bool.rec (motive := fun _ => OpC) bad ⟨fun _ A S => chk ((fits P e).f ((opd N x).f A)) (newB S (sizeT P e) e (cellsOf ((opd N x).f A)) (fun n S => .ok (mkP n 0) S))⟩ (unit P e)
noncomputable def ptrD (v : V) (k : Nat → Nat → Ans) : Ans := chk (Nat.beq v.s.tag 4) (force v.s.a (fun n => force v.s.b (fun o => k n o) .no) .no)
noncomputable def subC (o : Nat) : Cl (Cells → Cells) := Bool.rec ⟨fun c => tabC (fun i => (accC (Nat.add o i)).f c)⟩ ⟨fun c => c⟩ (Nat.beq o 0)
noncomputable def loadAt (P : Program) (t : TypeId) : Cl (Nat → Nat → St → Ans) :=
  Bool.rec
    ⟨fun n o S => chk (Bool.and (Nat.blt n 32768) (Nat.blt o ((getB n).f S).size)) (.ok (vS ((accC o).f ((getB n).f S).cs)) S)⟩
    ⟨fun n o S => chk (Bool.and (Nat.blt n 32768) (Nat.ble (Nat.add o (sizeT P t)) ((getB n).f S).size)) (.ok (mkAgg (sizeT P t) ((subC o).f ((getB n).f S).cs)) S)⟩
    (isAggT P t)
noncomputable def known (P : Program) (t : TypeId) : Prop := P.underlying t ≠ none ∧ P.info? t ≠ none
noncomputable instance (P : Program) (t : TypeId) : Decidable (known P t) :=
  match h1 : P.underlying t, h2 : P.info? t with
  | some _, some _ => isTrue ⟨by rw [h1]; simp, by rw [h2]; simp⟩
  | none, _ => isFalse fun h => h.1 h1
  | _, none => isFalse fun h => h.2 h2
/-- the code of an int's kind, 0 for other types -/
noncomputable def intT (P : Program) (t : TypeId) : Nat := match desc P t with | .int k => kcode k | _ => 0
noncomputable def loadC (P : Program) (N : Nat) (t : TypeId) (x : Operand) : OpC := if known P t then ⟨fun _ A S => iff (Nat.beq ((opd N x).f A).s.tag 102) (chk (Nat.beq ((opd N x).f A).s.b (intT P t)) (.ok (vS ⟨24, ((opd N x).f A).s.a, ((opd N x).f A).s.b, 0, 0, [], []⟩) S)) (ptrD ((opd N x).f A) (fun n o => (loadAt P t).f n o S))⟩ else bad
noncomputable def sets (src : Nat → Sc) (k d : Nat) (c : Cells) : Cells := Nat.rec (motive := fun _ => Nat → Cells → Cells) (fun _ c => c) (fun _ ih i c => ih (Nat.add i 1) ((updC (Nat.add d i)).f (src i) c)) k 0 c
/-- k cells of s, from so on, laid over c from d on -/
noncomputable def paste (so d k : Nat) : Cl (Cells → Cells → Cells) :=
  Bool.rec (motive := fun _ => Cl (Cells → Cells → Cells))
    ⟨fun s c => tabC (fun i => Bool.rec (motive := fun _ => Sc) ((accC i).f c) ((accC (Nat.add so (Nat.sub i d))).f s) (Bool.and (Nat.ble d i) (Nat.blt i (Nat.add d k))))⟩
    ⟨fun s c => sets (fun i => (accC (Nat.add so i)).f s) k d c⟩ (Nat.ble k 8)
noncomputable def withCs (B : Blk) (c : Cells) : Blk := ⟨B.size, B.elem, c⟩
/-- a name that may be written: none of the program's variables (below 256), none that is lent (256 to 271) -/
noncomputable def wrN (n : Nat) : Bool := Bool.and (Nat.ble 272 n) (Nat.blt n 32768)
noncomputable def storeS (n o : Nat) (s : Sc) (S : St) (K : St → Ans) : Ans :=
  chk (Bool.and (wrN n) (Nat.blt o ((getB n).f S).size)) (K ((putB n).f (withCs ((getB n).f S) ((updC o).f s ((getB n).f S).cs)) S))
noncomputable def storeA (n o k : Nat) (c : Cells) (S : St) (K : St → Ans) : Ans :=
  chk (Bool.and (wrN n) (Nat.ble (Nat.add o k) ((getB n).f S).size))
    (iff (Bool.and (Nat.beq o 0) (Nat.beq k ((getB n).f S).size)) (K ((putB n).f (withCs ((getB n).f S) c) S)) (K ((putB n).f (withCs ((getB n).f S) ((paste 0 o k).f c ((getB n).f S).cs)) S)))
noncomputable def storeC (P : Program) (N : Nat) (t : TypeId) (a x : Operand) : OpC :=
  if known P t ∧ unit P t = true ∧ 1 ≤ sizeT P t then Bool.rec (motive := fun _ => OpC)
    ⟨fun _ A S => chk ((fits P t).f ((opd N x).f A)) (ptrD ((opd N a).f A) (fun n o => storeS n o ((opd N x).f A).s S (fun S => .ok undefV S)))⟩
    ⟨fun _ A S => chk ((fits P t).f ((opd N x).f A)) (ptrD ((opd N a).f A) (fun n o => storeA n o (sizeT P t) ((opd N x).f A).cs S (fun S => .ok undefV S)))⟩
    (isAggT P t) else bad
noncomputable def fieldOf (P : Program) (t : TypeId) (f : Nat) : Option Field := match desc P t with | .struct fs => fs[f]? | _ => none
noncomputable def fieldAddrC (P : Program) (N : Nat) (t : TypeId) (x : Operand) (f : Nat) : OpC :=
  match fieldOf P t f with
  | some q => Bool.rec (motive := fun _ => OpC) ⟨fun _ A S => ptrD ((opd N x).f A) (fun n o => force (Nat.add o q.offset) (fun o => .ok (mkP n o) S) .no)⟩ bad (Nat.beq (sizeT P q.type) 0)
  | none => bad
noncomputable def partV (P : Program) (t : TypeId) : Cl (Cells → Nat → V) :=
  Bool.rec (motive := fun _ => Cl (Cells → Nat → V)) ⟨fun c o => vS ((accC o).f c)⟩ ⟨fun c o => mkAgg (sizeT P t) ((subC o).f c)⟩ (isAggT P t)
noncomputable def partSize (P : Program) (t : TypeId) : Nat := Bool.rec (motive := fun _ => Nat) 1 (sizeT P t) (isAggT P t)
noncomputable def fieldC (P : Program) (N : Nat) (t : TypeId) (x : Operand) (f : Nat) : OpC :=
  match fieldOf P t f with
  | some q => if known P q.type then ⟨fun _ A S => chk (Bool.and (Nat.beq ((opd N x).f A).s.tag 98) (Nat.ble (Nat.add q.offset (partSize P q.type)) ((opd N x).f A).s.a)) (.ok ((partV P q.type).f ((opd N x).f A).cs q.offset) S)⟩ else bad
  | none => bad
/-- an index: an int that is not negative -/
noncomputable def idxN (i : V) (k : Nat → Ans) : Ans := chk (Bool.and (Bool.and (Nat.ble 19 i.s.tag) (Nat.ble i.s.tag 23)) (Nat.blt i.s.a 9223372036854775808)) (force i.s.a k .no)
noncomputable def isSl (v : V) : Bool := Bool.or (Nat.beq v.s.tag 6) (Nat.beq v.s.tag 12)
noncomputable def indexAddrC (P : Program) (N : Nat) (t : TypeId) (x i : Operand) : OpC :=
  match desc P t with
  | .array len e => Bool.rec (motive := fun _ => OpC) ⟨fun _ A S => idxN ((opd N i).f A) (fun j => chk (Nat.blt j len) (ptrD ((opd N x).f A) (fun n o => force (Nat.add o (Nat.mul j (sizeT P e))) (fun o => .ok (mkP n o) S) .no)))⟩ bad (Nat.beq (sizeT P e) 0)
  | .slice e => Bool.rec (motive := fun _ => OpC) ⟨fun _ A S => iff (Nat.beq ((opd N x).f A).s.tag 103) (chk (Bool.and (Bool.and (Nat.beq ((opd N i).f A).s.tag 24) (Nat.beq ((opd N i).f A).s.b 19)) (Bool.and (Bool.and (Nat.ble ((opd N x).f A).s.d ((opd N i).f A).s.a) (Nat.blt ((opd N i).f A).s.a (Nat.add ((opd N x).f A).s.d ((opd N x).f A).s.c))) (Nat.beq (sizeT P e) 1))) (force (Nat.add ((opd N i).f A).s.a ((opd N x).f A).s.c) (fun q => .ok (vS ⟨102, q, ((opd N x).f A).s.a, 0, 0, [], []⟩) S) .no)) (idxN ((opd N i).f A) (fun j => iff (Nat.beq ((opd N x).f A).s.tag 101) (chk (Bool.and (Nat.blt j ((opd N x).f A).s.c) (Nat.beq (sizeT P e) 1)) (force (Nat.add ((opd N x).f A).s.d j) (fun q => .ok (vS ⟨102, q, ((opd N x).f A).s.a, 0, 0, [], []⟩) S) .no)) (chk (Bool.and (isSl ((opd N x).f A)) (Nat.blt j ((opd N x).f A).s.c)) (force ((opd N x).f A).s.a (fun n => force (Nat.add ((opd N x).f A).s.b (Nat.mul j (sizeT P e))) (fun o => .ok (mkP n o) S) .no) .no))))⟩ bad (Nat.beq (sizeT P e) 0)
  | _ => bad
noncomputable def byteAt (n i : Nat) : Nat := Nat.mod (Nat.div n (Nat.pow 256 i)) 256
noncomputable def indexC (P : Program) (N : Nat) (t : TypeId) (x i : Operand) : OpC :=
  match desc P t with
  | .array len e => if known P e then ⟨fun _ A S => idxN ((opd N i).f A) (fun j => chk (Bool.and (Nat.blt j len) (Bool.and (Nat.beq ((opd N x).f A).s.tag 98) (Nat.ble (Nat.add (Nat.mul j (sizeT P e)) (partSize P e)) ((opd N x).f A).s.a))) (force (Nat.mul j (sizeT P e)) (fun o => .ok ((partV P e).f ((opd N x).f A).cs o) S) .no))⟩ else bad
  | .string => ⟨fun _ A S => idxN ((opd N i).f A) (fun j => chk (Bool.and (Nat.beq ((opd N x).f A).s.tag 2) (Nat.blt j ((opd N x).f A).s.a)) (okI .u8 (byteAt ((opd N x).f A).s.b j) S))⟩
  | _ => bad
noncomputable def nthV (vs : List V) (n : Nat) (k : V → Ans) : Ans := List.rec (motive := fun _ => Nat → Ans) (fun _ => .no) (fun h _ ih n => Nat.rec (motive := fun _ => Ans) (k h) (fun m _ => ih m) n) vs n
noncomputable def lenV (v : V) (k : Nat → Ans) : Ans :=
  iff (isSl v) (force v.s.c k .no) (iff (Nat.beq v.s.tag 2) (force v.s.a k .no) (iff (Nat.beq v.s.tag 5) (k 0) .no))
noncomputable def byteSc (n i : Nat) : Sc := ⟨20, byteAt n i, 0, 0, 0, [], []⟩
/-- the first n elements, of z cells, of a slice or string: the cells, and where they begin -/
noncomputable def firstC (z n : Nat) (S : St) (x : V) (k : Cells → Nat → Ans) : Ans :=
  iff (isSl x) (force x.s.a (fun m => force x.s.b (fun o => chk (Bool.and (Nat.blt m 32768) (Nat.ble (Nat.add o (Nat.mul n z)) ((getB m).f S).size)) (k ((getB m).f S).cs o)) .no) .no)
    (iff (Nat.beq x.s.tag 2) (chk (Bool.and (Nat.beq z 1) (Nat.ble n 32768)) (k (tabC (byteSc x.s.b)) 0)) (chk (Bool.and (Nat.beq x.s.tag 5) (Nat.beq n 0)) (k cells0 0)))
noncomputable def kill (n : Nat) (S : St) : St := (putB n).f blk0 S
noncomputable def appendNew (P : Program) (e : TypeId) (len n : Nat) (cs : Cells) (S : St) : Ans :=
  newB S (Nat.mul (Nat.add len n) (sizeT P e)) e cs (fun m S => force (Nat.add len n) (fun l => .ok (mkSu m 0 l 0) S) .no)
/-- a row of zero elements -/
noncomputable def repC (P : Program) (e : TypeId) : Option Cells :=
  match zeroT P e with
  | some z => Bool.rec (motive := fun _ => Option Cells) none (Bool.rec (motive := fun _ => Option Cells) (some (tabC (fun _ => z.s))) (some (tabC (fun i => (accC (Nat.mod i (sizeT P e))).f z.cs))) (isAggT P e)) (Bool.and (Bool.and (unit P e) ((fits P e).f z)) (Nat.ble 1 (sizeT P e)))
  | none => none
noncomputable def srcT (P : Program) (t : TypeId) : Bool := match desc P t with | .slice _ => true | .string => true | _ => false
noncomputable def appendC (P : Program) (N : Nat) (t t2 : TypeId) (s x : Operand) : OpC :=
  match desc P t with
  | .slice e => (match repC P e with
    | some _ => Bool.rec (motive := fun _ => OpC) bad ⟨fun _ A S => lenV ((opd N x).f A) (fun n => iff (Nat.beq n 0) (chk (Bool.or (isSl ((opd N s).f A)) (Nat.beq ((opd N s).f A).s.tag 5)) (.ok ((opd N s).f A) S))
      (firstC (sizeT P e) n S ((opd N x).f A) (fun xc xo =>
        iff (Nat.beq ((opd N s).f A).s.tag 5) (appendNew P e 0 n ((subC xo).f xc) S)
          (chk (isSl ((opd N s).f A)) (force ((opd N s).f A).s.a (fun m => force ((opd N s).f A).s.b (fun o => force ((opd N s).f A).s.c (fun len =>
            chk (Bool.and (wrN m) (Nat.ble (Nat.add o (Nat.mul len (sizeT P e))) ((getB m).f S).size))
              (iff (Nat.beq ((opd N s).f A).s.tag 12)
                (chk (Bool.and (Nat.beq o 0) (Bool.and (Nat.beq ((opd N s).f A).s.d 0) (Bool.and (Nat.beq ((getB m).f S).elem e) (Nat.ble 1 ((getB m).f S).size))))
                  (appendNew P e len n ((paste xo (Nat.mul len (sizeT P e)) (Nat.mul n (sizeT P e))).f xc ((getB m).f S).cs) (kill m S)))
                (iff (Nat.ble (Nat.add len n) ((opd N s).f A).s.d)
                  (force (Nat.add len n) (fun l => force ((opd N s).f A).s.d (fun c => chk (Nat.ble (Nat.add o (Nat.mul l (sizeT P e))) ((getB m).f S).size)
                    (.ok (mkSl m o l c) ((putB m).f (withCs ((getB m).f S) ((paste xo (Nat.add o (Nat.mul len (sizeT P e))) (Nat.mul n (sizeT P e))).f xc ((getB m).f S).cs)) S))) .no) .no)
                  (appendNew P e len n ((paste xo (Nat.mul len (sizeT P e)) (Nat.mul n (sizeT P e))).f xc ((subC o).f ((getB m).f S).cs)) S)))) .no) .no) .no)))))⟩
      (Bool.and (srcT P t2) (Nat.ble (bytesT P e) 1048576))
    | none => bad)
  | _ => bad
noncomputable def copyC (P : Program) (N : Nat) (t : TypeId) (d x : Operand) : OpC :=
  match desc P t with
  | .slice e => (match repC P e with
    | some _ => ⟨fun _ A S => lenV ((opd N x).f A) (fun xn => lenV ((opd N d).f A) (fun dn => force (Nat.min xn dn) (fun n => iff (Nat.beq n 0) (chk (Bool.or (isSl ((opd N d).f A)) (Nat.beq ((opd N d).f A).s.tag 5)) (.ok (mkI 19 0) S))
      (firstC (sizeT P e) n S ((opd N x).f A) (fun xc xo => chk (isSl ((opd N d).f A)) (force ((opd N d).f A).s.a (fun m => force ((opd N d).f A).s.b (fun o => chk (Bool.and (wrN m) (Nat.ble (Nat.add o (Nat.mul n (sizeT P e))) ((getB m).f S).size))
        (.ok (mkI 19 n) ((putB m).f (withCs ((getB m).f S) ((paste xo o (Nat.mul n (sizeT P e))).f xc ((getB m).f S).cs)) S))) .no) .no)))) .no))⟩
    | none => bad)
  | _ => bad
noncomputable def opt (N : Nat) (x : Option Operand) (d : Nat) (A : Env) (k : Nat → Ans) : Ans := Option.rec (motive := fun _ => Ans) (force d k .no) (fun x => idxN ((opd N x).f A) k) x
noncomputable def sliceC (P : Program) (N : Nat) (t : TypeId) (x : Operand) (lo hi mx : Option Operand) : OpC :=
  match desc P t with
  | .string => ⟨fun _ A S => chk (Bool.and (Nat.beq ((opd N x).f A).s.tag 2) (Option.isNone mx)) (opt N lo 0 A (fun l => opt N hi ((opd N x).f A).s.a A (fun h => chk (Bool.and (Nat.ble l h) (Nat.ble h ((opd N x).f A).s.a))
      (force (Nat.sub h l) (fun n => force (Nat.mod (Nat.div ((opd N x).f A).s.b (Nat.pow 256 l)) (Nat.pow 256 n)) (fun b => .ok (vS ⟨2, n, b, 0, 0, [], []⟩) S) .no) .no))))⟩
  | .slice e => if sizeT P e ≠ 0 then ⟨fun _ A S => iff (Nat.beq ((opd N x).f A).s.tag 6)
      (opt N lo 0 A (fun l => opt N hi ((opd N x).f A).s.c A (fun h => opt N mx ((opd N x).f A).s.d A (fun m => chk (Bool.and (Nat.ble l h) (Bool.and (Nat.ble h m) (Nat.ble m ((opd N x).f A).s.d)))
          (force ((opd N x).f A).s.a (fun n => force (Nat.add ((opd N x).f A).s.b (Bool.rec (motive := fun _ => Nat) (Nat.mul l (sizeT P e)) 0 (Nat.beq m l))) (fun o => force (Nat.sub h l) (fun q => force (Nat.sub m l) (fun d => .ok (mkSl n o q d) S) .no) .no) .no) .no)))))
      (iff (Nat.beq ((opd N x).f A).s.tag 12)
        (opt N lo 0 A (fun l => opt N hi ((opd N x).f A).s.c A (fun h => Option.rec (motive := fun _ => Ans)
          (chk (Bool.and (Nat.ble l h) (Bool.and (Nat.ble h ((opd N x).f A).s.c) (Bool.or (Nat.beq l 0) (Nat.blt l ((opd N x).f A).s.c))))
            (force ((opd N x).f A).s.a (fun n => force (Nat.add ((opd N x).f A).s.b (Nat.mul l (sizeT P e))) (fun o => force (Nat.sub h l) (fun q => force (Nat.add ((opd N x).f A).s.d l) (fun d => .ok (mkSu n o q d) S) .no) .no) .no) .no))
          (fun m => idxN ((opd N m).f A) (fun m => chk (Bool.and (Nat.ble l h) (Bool.and (Nat.ble h m) (Nat.ble m ((opd N x).f A).s.c)))
            (force ((opd N x).f A).s.a (fun n => force (Nat.add ((opd N x).f A).s.b (Bool.rec (motive := fun _ => Nat) (Nat.mul l (sizeT P e)) 0 (Nat.beq m l))) (fun o => force (Nat.sub h l) (fun q => force (Nat.sub m l) (fun d => .ok (mkSl n o q d) S) .no) .no) .no) .no))) mx)))
        (chk (Nat.beq ((opd N x).f A).s.tag 5) (opt N lo 0 A (fun l => opt N hi 0 A (fun h => chk (Bool.and (Option.isNone mx) (Bool.and (Nat.beq l 0) (Nat.beq h 0))) (.ok ((opd N x).f A) S))))))⟩ else bad
  | .array n e => if sizeT P e ≠ 0 then ⟨fun _ A S => ptrD ((opd N x).f A) (fun b o => opt N lo 0 A (fun l => opt N hi n A (fun h => opt N mx n A (fun m => chk (Bool.and (Nat.ble l h) (Bool.and (Nat.ble h m) (Bool.and (Nat.ble m n) (Nat.ble 256 b))))
          (force (Nat.add o (Bool.rec (motive := fun _ => Nat) (Nat.mul l (sizeT P e)) 0 (Nat.beq m l))) (fun o => force (Nat.sub h l) (fun q => force (Nat.sub m l) (fun d => .ok (mkSl b o q d) S) .no) .no) .no)))))⟩ else bad
  | _ => bad
noncomputable def gather (c : Cells) (o n : Nat) (k : Nat → Ans) : Ans :=
  Nat.rec (motive := fun _ => Nat → Ans) (fun a => force a k .no) (fun m ih a => force (Nat.add o m) (fun i => chk (Nat.beq ((accC i).f c).tag 20) (force (Nat.add (Nat.mul 256 a) ((accC i).f c).a) ih .no)) .no) n 0
noncomputable def convC (H : Hy) (P : Program) (N : Nat) (src dst : TypeId) (x : Operand) : OpC :=
  match desc P src, desc P dst with
  | .int k, .int k' => ⟨fun _ A S => iff (Nat.beq ((opd N x).f A).s.tag (kcode k))
      (okI k' (Bool.rec (motive := fun _ => Nat) (ofI k' (toI k ((opd N x).f A).s.a)) (Nat.mod ((opd N x).f A).s.a (kmod k')) (Bool.or (Nat.beq (khalf k) 0) (Nat.blt ((opd N x).f A).s.a (khalf k)))) S)
      (chk (isIk k ((opd N x).f A).s) (symR (H.conv k k' ((opd N x).f A).s) S))⟩
  | .string, .string => ⟨fun _ A S => chk (Nat.beq ((opd N x).f A).s.tag 2) (.ok ((opd N x).f A) S)⟩
  | .string, .slice e => (match desc P e with
    | .int .u8 => if sizeT P e = 1 then ⟨fun _ A S => chk (Nat.beq ((opd N x).f A).s.tag 2) (force ((opd N x).f A).s.a (fun l => appendNew P e 0 l (tabC (byteSc ((opd N x).f A).s.b)) S) .no)⟩ else bad
    | _ => bad)
  | .slice e, .string => (match desc P e with
    | .int .u8 => if sizeT P e = 1 then ⟨fun _ A S => lenV ((opd N x).f A) (fun n => chk (Bool.not (Nat.beq ((opd N x).f A).s.tag 2)) (iff (Nat.beq n 0) (.ok (vS ⟨2, 0, 0, 0, 0, [], []⟩) S) (firstC 1 n S ((opd N x).f A) (fun c o => gather c o n (fun s => .ok (vS ⟨2, n, s, 0, 0, [], []⟩) S)))))⟩ else bad
    | _ => bad)
  | _, _ => bad
noncomputable def minV (isMax : Bool) (k : IntKind) (vs : List V) (v : V) (K : V → Ans) : Ans :=
  List.rec (motive := fun _ => V → Ans) K (fun w _ ih v => chk (Nat.beq w.s.tag (kcode k)) (iff (Nat.ble (bias k v.s.a) (bias k w.s.a)) (ih (Bool.rec (motive := fun _ => V) v w isMax)) (ih (Bool.rec (motive := fun _ => V) w v isMax)))) vs v
noncomputable def minsC (P : Program) (N : Nat) (isMax : Bool) (t : TypeId) (xs : List Operand) : OpC :=
  match desc P t, xs with
  | .int k, x :: r => ⟨fun _ A S => chk (Nat.beq ((opd N x).f A).s.tag (kcode k)) (minV isMax k ((opds N r).f A) ((opd N x).f A) (fun v => .ok v S))⟩
  | _, _ => bad
/-- where a part of a struct, an array, a slice lies, and its type -/
noncomputable def places (P : Program) (t : TypeId) (i : Nat) : Option (Nat × TypeId) := match desc P t with
  | .struct fs => (match fs[i]? with | some q => some (q.offset, q.type) | none => none)
  | .array _ e => some (i * sizeT P e, e)
  | .slice e => some (i * sizeT P e, e)
  | _ => none
noncomputable def putPart (P : Program) (e : TypeId) (o total : Nat) : Cl (V → Cells → (Cells → Ans) → Ans) :=
  Bool.rec (motive := fun _ => Cl (V → Cells → (Cells → Ans) → Ans))
    ⟨fun v c k => chk (Bool.and (Nat.ble v.s.tag 97) (Bool.and (Nat.beq (sizeT P e) 1) (Nat.blt o total))) (k ((updC o).f v.s c))⟩
    ⟨fun v c k => chk (Bool.and (Nat.beq v.s.tag 98) (Bool.and (Nat.beq v.s.a (sizeT P e)) (Nat.ble (Nat.add o (sizeT P e)) total))) (k ((paste 0 o (sizeT P e)).f v.cs c))⟩ (isAggT P e)
abbrev PartsC := Cl (Env → Cells → (Cells → Ans) → Ans)
noncomputable def partsC (P : Program) (N : Nat) (t : TypeId) (total : Nat) (ps : List (Nat × Operand)) : PartsC :=
  match ps with
  | [] => ⟨fun _ c k => k c⟩
  | p :: r => match places P t p.1 with
    | some q => ⟨fun A c k => (putPart P q.2 q.1 total).f ((opd N p.2).f A) c (fun c => (partsC P N t total r).f A c k)⟩
    | none => ⟨fun _ _ _ => .no⟩
noncomputable def makeC (P : Program) (N : Nat) (t : TypeId) (l c : Operand) : OpC :=
  match desc P t with
  | .slice e => (match repC P e with
    | some z => Bool.rec (motive := fun _ => OpC) bad ⟨fun _ A S => idxN ((opd N l).f A) (fun l => idxN ((opd N c).f A) (fun c => chk (Nat.ble l c) (newB S (Nat.mul c (sizeT P e)) e z (fun n S => .ok (mkSl n 0 l c) S))))⟩ (Nat.ble (bytesT P e) 1048576)
    | none => bad)
  | _ => bad
noncomputable def partsKnown (P : Program) (t : TypeId) : Bool := match desc P t with
  | .struct fs => fs.toList.all fun f => (P.info? f.type).isSome
  | .array _ e => (P.info? e).isSome
  | _ => false
noncomputable def buildC (P : Program) (N : Nat) (t : TypeId) (ps : List (Nat × Operand)) : OpC :=
  match zeroT P t with
  | some z => Bool.rec (motive := fun _ => OpC) bad ⟨fun _ A S => (partsC P N t (sizeT P t) ps).f A z.cs (fun c => .ok (mkAgg (sizeT P t) c) S)⟩ (Bool.and (partsKnown P t) (Bool.and (isAggT P t) ((fits P t).f z)))
  | none => bad
noncomputable def buildSliceC (P : Program) (N : Nat) (t : TypeId) (len : Nat) (ps : List (Nat × Operand)) : OpC :=
  match desc P t with
  | .slice e => (match repC P e with
    | some z => ⟨fun _ A S => (partsC P N t (Nat.mul len (sizeT P e)) ps).f A z (fun c => newB S (Nat.mul len (sizeT P e)) e c (fun n S => .ok (mkSl n 0 len len) S))⟩
    | none => bad)
  | _ => bad
noncomputable def scs (vs : List V) (k : List Sc → Ans) : Ans := List.rec (motive := fun _ => (List Sc → Ans) → Ans) (fun k => k []) (fun v _ ih k => chk (Nat.ble v.s.tag 97) (ih (fun r => k (v.s :: r)))) vs k
noncomputable def vsS (vs : List Sc) : List V := List.rec (motive := fun _ => List V) [] (fun v _ ih => vS v :: ih) vs
noncomputable def app (a b : List V) : List V := List.rec (motive := fun _ => List V) b (fun v _ ih => v :: ih) a
noncomputable def bnd (r : Ans) (K : V → St → Ans) : Ans := Ans.rec (motive := fun _ => Ans) .no K r
noncomputable def callC (N : Nat) (f : Operand) (xs : List Operand) : OpC :=
  match f with
  | .func g => ⟨fun call A S => call g ((opds N xs).f A) S⟩
  | f => ⟨fun call A S => chk (Nat.beq ((opd N f).f A).s.tag 7) (force ((opd N f).f A).s.a (fun g => call g (app (vsS ((opd N f).f A).s.xs) (app ((opds N xs).f A) (vsS ((opd N f).f A).s.ys))) S) .no)⟩
noncomputable def invokeC (mth : Nat → String → Option Nat) (N : Nat) (r : Operand) (m : String) (xs : List Operand) : OpC :=
  ⟨fun call A S => chk (Nat.beq ((opd N r).f A).s.tag 9) (force ((opd N r).f A).s.a (fun t => Option.rec (motive := fun _ => Ans) .no (fun g => call g (app (vsS ((opd N r).f A).s.xs) ((opds N xs).f A)) S) (mth t m)) .no)⟩
noncomputable def deferC (N : Nat) (f : Operand) (xs : List Operand) : OpC :=
  ⟨fun _ A S => chk (Nat.beq ((opd N f).f A).s.tag 7) (force ((opd N f).f A).s.a (fun g => .ok undefV ⟨S.heap, S.next, (g, app (vsS ((opd N f).f A).s.xs) (app ((opds N xs).f A) (vsS ((opd N f).f A).s.ys))) :: S.ds⟩) .no)⟩
noncomputable def lenC (P : Program) (N : Nat) (t : TypeId) (x : Operand) : OpC :=
  match desc P t with
  | .array n _ => if Nat.blt n 9223372036854775808 then ⟨fun _ _ S => .ok (mkI 19 n) S⟩ else bad
  | .pointer a => (match desc P a with | .array n _ => if Nat.blt n 9223372036854775808 then ⟨fun _ _ S => .ok (mkI 19 n) S⟩ else bad | _ => bad)
  | .string => ⟨fun _ A S => chk (Nat.beq ((opd N x).f A).s.tag 2) (lenV ((opd N x).f A) (fun n => chk (Nat.blt n 9223372036854775808) (.ok (mkI 19 n) S)))⟩
  | .slice _ => ⟨fun _ A S => iff (Bool.or (Nat.beq ((opd N x).f A).s.tag 101) (Nat.beq ((opd N x).f A).s.tag 103)) (.ok (vS ⟨24, ((opd N x).f A).s.b, 19, 0, 0, [], []⟩) S) (chk (Bool.not (Nat.beq ((opd N x).f A).s.tag 2)) (lenV ((opd N x).f A) (fun n => chk (Nat.blt n 9223372036854775808) (.ok (mkI 19 n) S))))⟩
  | _ => bad
noncomputable def builtinC (P : Program) (N : Nat) (b : Builtin) (ts : List TypeId) (xs : List Operand) : OpC :=
  match b, ts, xs with
  | .append, [t, t2], [s, x] => appendC P N t t2 s x
  | .copy, t :: _, [d, x] => copyC P N t d x
  | .len, t :: _, [x] => lenC P N t x
  | .min, t :: _, xs => minsC P N false t xs
  | .max, t :: _, xs => minsC P N true t xs
  | _, _, _ => bad
noncomputable def catC (N : Nat) (x y : Operand) : OpC :=
  ⟨fun _ A S => chk (Bool.and (Nat.beq ((opd N x).f A).s.tag 2) (Nat.beq ((opd N y).f A).s.tag 2)) (force (Nat.add ((opd N x).f A).s.a ((opd N y).f A).s.a) (fun l => chk (Nat.ble l 1000000000) (force (Nat.add ((opd N x).f A).s.b (Nat.mul (Nat.pow 256 ((opd N x).f A).s.a) ((opd N y).f A).s.b)) (fun n => .ok (vS ⟨2, l, n, 0, 0, [], []⟩) S) .no)) .no)⟩
/-- the tags of the cells of a type that is compared by ints, bools and strings alone -/
noncomputable def flatF (P : Program) (ih : TypeId → Option (List Nat)) : List Field → Nat → Option (List Nat)
  | [], _ => some []
  | f :: r, o => if f.name ≠ "_" ∧ f.offset = o ∧ known P f.type then (match ih f.type with
    | some l => if l.length = partSize P f.type then (match flatF P ih r (o + l.length) with | some m => some (l ++ m) | none => none) else none
    | none => none) else none
noncomputable def repL (n : Nat) (l : List Nat) : List Nat := Nat.rec (motive := fun _ => List Nat) [] (fun _ ih => l ++ ih) n
noncomputable def flat (P : Program) : Nat → TypeId → Option (List Nat)
  | 0, _ => none
  | d + 1, t => match desc P t with
    | .int k => some [kcode k]
    | .bool => some [1]
    | .string => some [2]
    | .array n e => if known P e then (match flat P d e with
      | some l => if l.length = partSize P e ∧ sizeT P e = l.length then some (repL n l) else none
      | none => none) else none
    | .struct fs => if P.stoodInHeld t = false then flatF P (flat P d) fs.toList 0 else none
    | _ => none
noncomputable def cellEq (g : Nat) (a b : Sc) : Bool := Bool.rec (motive := fun _ => Bool) (Nat.beq a.a b.a) (Bool.and (Nat.beq a.a b.a) (Nat.beq a.b b.b)) (Nat.beq g 2)
/-- cells that can be compared: of a tag both, or one variable -/
noncomputable def okC (g : Nat) (a b : Sc) : Bool := Bool.or (Bool.and (Nat.beq a.tag g) (Nat.beq b.tag g)) (Bool.and (Bool.and (Nat.beq a.tag 24) (Nat.beq b.tag 24)) (Bool.and (Nat.beq a.a b.a) (Bool.and (Nat.beq a.b g) (Nat.beq b.b g))))
noncomputable def eqCs (c e : Cells) (l : List Nat) (k : Bool → Ans) : Ans :=
  List.rec (motive := fun _ => Nat → Bool → Ans) (fun _ r => k r) (fun g _ ih i r => force i (fun i => chk (okC g ((accC i).f c) ((accC i).f e)) (iff (cellEq g ((accC i).f c) ((accC i).f e)) (ih (Nat.add i 1) r) (ih (Nat.add i 1) false))) .no) l 0 true
noncomputable def eqAgg (P : Program) (N : Nat) (t : TypeId) (neg : Bool) (x y : Operand) : OpC :=
  match flat P 10 t with
  | some l => if P.eqGuardType P.depth t = false ∧ l.length = sizeT P t then
    ⟨fun _ A S => chk (Bool.and ((fits P t).f ((opd N x).f A)) ((fits P t).f ((opd N y).f A))) (eqCs ((opd N x).f A).cs ((opd N y).f A).cs l (fun r => okB (Bool.rec (motive := fun _ => Bool) r (Bool.not r) neg) S))⟩ else bad
  | none => bad
noncomputable def isNilK (op : Operand) : Bool := match op with | .const .nilIface => true | _ => false
/-- a comparison with nil: z is nil's tag -/
noncomputable def nilC (N : Nat) (neg : Bool) (x y : Operand) (z : Nat) (full : Nat → Bool) : OpC :=
  ⟨fun _ A S => iff (Nat.beq ((opd N x).f A).s.tag z) (iff (Nat.beq ((opd N y).f A).s.tag z) (okB (Bool.not neg) S) (chk (full ((opd N y).f A).s.tag) (okB neg S)))
    (chk (Bool.and (full ((opd N x).f A).s.tag) (Nat.beq ((opd N y).f A).s.tag z)) (okB neg S))⟩
noncomputable def eqC (P : Program) (N : Nat) (t : TypeId) (neg : Bool) (x y : Operand) : OpC :=
  match desc P t with
  | .bool => ⟨fun _ A S => chk (Bool.and (Nat.beq ((opd N x).f A).s.tag 1) (Nat.beq ((opd N y).f A).s.tag 1)) (okB (Bool.rec (motive := fun _ => Bool) (Nat.beq ((opd N x).f A).s.a ((opd N y).f A).s.a) (Bool.not (Nat.beq ((opd N x).f A).s.a ((opd N y).f A).s.a)) neg) S)⟩
  | .pointer _ => nilC N neg x y 3 (Nat.beq 4)
  | .slice _ => nilC N neg x y 5 (fun t => Bool.or (Nat.beq t 6) (Nat.beq t 12))
  | .func .. => nilC N neg x y 8 (Nat.beq 7)
  | .interface _ => Bool.rec (motive := fun _ => OpC) bad (nilC N neg x y 10 (Nat.beq 9)) (Bool.or (isNilK x) (isNilK y))
  | .struct _ => eqAgg P N t neg x y
  | .array _ _ => eqAgg P N t neg x y
  | _ => bad
noncomputable def binC (H : Hy) (P : Program) (N : Nat) (op : BinOp) (t : TypeId) (x y : Operand) : OpC :=
  match desc P t with
  | .int k => intC H N k op x y
  | .string => (match op with
    | .add => catC N x y
    | .eql => ⟨fun _ A S => chk (Bool.and (Nat.beq ((opd N x).f A).s.tag 2) (Nat.beq ((opd N y).f A).s.tag 2)) (okB (Bool.and (Nat.beq ((opd N x).f A).s.a ((opd N y).f A).s.a) (Nat.beq ((opd N x).f A).s.b ((opd N y).f A).s.b)) S)⟩
    | .neq => ⟨fun _ A S => chk (Bool.and (Nat.beq ((opd N x).f A).s.tag 2) (Nat.beq ((opd N y).f A).s.tag 2)) (okB (Bool.not (Bool.and (Nat.beq ((opd N x).f A).s.a ((opd N y).f A).s.a) (Nat.beq ((opd N x).f A).s.b ((opd N y).f A).s.b))) S)⟩
    | _ => bad)
  | _ => (match op with | .eql => eqC P N t false x y | .neq => eqC P N t true x y | _ => bad)
noncomputable def unC (H : Hy) (P : Program) (N : Nat) (op : UnOp) (t : TypeId) (x : Operand) : OpC :=
  match op, desc P t with
  | .neg, .int k => ⟨fun _ A S => iff (Nat.beq ((opd N x).f A).s.tag (kcode k)) (okI k (Nat.mod (Nat.sub (kmod k) ((opd N x).f A).s.a) (kmod k)) S) (chk (isIk k ((opd N x).f A).s) (symR (H.neg k ((opd N x).f A).s) S))⟩
  | .xor, .int k => ⟨fun _ A S => chk (Nat.beq ((opd N x).f A).s.tag (kcode k)) (okI k (Nat.sub (Nat.sub (kmod k) 1) ((opd N x).f A).s.a) S)⟩
  | .not, _ => ⟨fun _ A S => chk (Nat.beq ((opd N x).f A).s.tag 1) (okB (Nat.beq ((opd N x).f A).s.a 0) S)⟩
  | _, _ => bad
noncomputable def opC (H : Hy) (P : Program) (mth : Nat → String → Option Nat) (N : Nat) (op : Op) : OpC :=
  match op with
  | .move x => ⟨fun _ A S => .ok ((opd N x).f A) S⟩
  | .assign x => ⟨fun _ A S => .ok ((opd N x).f A) S⟩
  | .pick c a b => ⟨fun _ A S => chk (Nat.beq ((opd N c).f A).s.tag 1) (iff (Nat.beq ((opd N c).f A).s.a 1) (.ok ((opd N a).f A) S) (.ok ((opd N b).f A) S))⟩
  | .alloc e => allocC P e
  | .box e x => boxC P N e x
  | .build t ps => buildC P N t ps.toList
  | .buildSlice t len ps => buildSliceC P N t len ps.toList
  | .load t x => loadC P N t x
  | .store t a x => storeC P N t a x
  | .nilCheck x => ⟨fun _ A S => chk (Bool.or (Nat.beq ((opd N x).f A).s.tag 4) (Bool.or (Nat.beq ((opd N x).f A).s.tag 7) (Nat.beq ((opd N x).f A).s.tag 9))) (.ok ((opd N x).f A) S)⟩
  | .binOp op t x y _ => binC H P N op t x y
  | .unOp op t x => unC H P N op t x
  | .convert s d x => convC H P N s d x
  | .makeInterface t x => (match desc P t with
    | .interface _ => bad
    | _ => if P.underlying t ≠ none then ⟨fun _ A S => chk (Nat.ble ((opd N x).f A).s.tag 97) (.ok (vS ⟨9, t, 0, 0, 0, [((opd N x).f A).s], []⟩) S)⟩ else bad)
  | .makeFunc (.func f) fs cs => ⟨fun _ A S => scs ((opds N fs.toList).f A) (fun a => scs ((opds N cs.toList).f A) (fun b => .ok (vS ⟨7, f, 0, 0, 0, a, b⟩) S))⟩
  | .makeSlice t l c => makeC P N t l c
  | .slice t x l h m => if (m ≠ none → h ≠ none) then sliceC P N t x l h m else bad
  | .fieldAddr s x f => fieldAddrC P N s x f
  | .field s x f => fieldC P N s x f
  | .indexAddr t x i => indexAddrC P N t x i
  | .index t x i => indexC P N t x i
  | .sliceToArrayPointer t x => (match desc P t with
    | .array n _ => ⟨fun _ A S => chk (Bool.and (isSl ((opd N x).f A)) (Nat.ble n ((opd N x).f A).s.c)) (force ((opd N x).f A).s.a (fun m => force ((opd N x).f A).s.b (fun o => .ok (mkP m o) S) .no) .no)⟩
    | _ => bad)
  | .extract t i => ⟨fun _ A S => chk (Nat.beq ((opd N t).f A).s.tag 99) (nthV ((opd N t).f A).vs i (fun v => .ok v S))⟩
  | .call c => (match c.callee with
    | .builtin b => builtinC P N b c.argTypes.toList c.args.toList
    | .value f => callC N f c.args.toList
    | .invoke r m => invokeC mth N r m c.args.toList)
  | .defer c => (match c.callee with
    | .value f => deferC N f c.args.toList
    | _ => bad)
  | _ => bad
abbrev RegC := Cl (Caller → Env → St → (Env → St → Ans) → Ans)
noncomputable def put (N : Nat) (d : Option Tmp) : Cl (V → Env → Env) := match d with | some d => Bool.rec ⟨fun _ A => A⟩ ⟨(upd (α := V) 3 d).f⟩ (Nat.blt d N) | none => ⟨fun _ A => A⟩
noncomputable def dstOf (ops : List Oper) (j : Nat) : Option Tmp := match ops[j]? with | some o => o.dst | none => none
noncomputable def regC (H : Hy) (P : Program) (mth : Nat → String → Option Nat) (N : Nat) (all : List Oper) (ops : List Oper) : RegC :=
  match ops with
  | [] => ⟨fun _ A S K => K A S⟩
  | o :: r => match o.guard with
    | none => ⟨fun call A S K => bnd ((opC H P mth N o.op).f call A S) (fun v S => (regC H P mth N all r).f call ((put N o.dst).f v A) S K)⟩
    | some g => match dstOf all g.1 with
      | some d => Bool.rec (motive := fun _ => RegC) ⟨fun _ _ _ _ => .no⟩
        ⟨fun call A S K => iff (Nat.beq ((acc (α := V) 3 d).f A).s.tag 1)
          (iff (Nat.beq ((acc (α := V) 3 d).f A).s.a (cond g.2 1 0))
            (bnd ((opC H P mth N o.op).f call A S) (fun v S => (regC H P mth N all r).f call ((put N o.dst).f v A) S K))
            ((regC H P mth N all r).f call ((put N o.dst).f undefV A) S K))
          (chk (Nat.beq ((acc (α := V) 3 d).f A).s.tag 99) ((regC H P mth N all r).f call ((put N o.dst).f undefV A) S K))⟩ (Nat.blt d N)
      | none => ⟨fun _ _ _ _ => .no⟩
def loopFuel : Nat := 1000000
noncomputable def loopN (body : (Env → St → Ans) → Env → St → Ans) (n : Nat) : Env → St → Ans := Nat.rec (motive := fun _ => Env → St → Ans) (fun _ _ => .no) (fun _ ih => body ih) n
abbrev CodC := Cl (Caller → Env → St → (Env → St → Ans) → (Nat → Env → St → Ans) → (Env → St → Ans) → Ans)
noncomputable def badC : CodC := ⟨fun _ _ _ _ _ _ => .no⟩
/-- How a region that draws its order is run: by its number within the function, and its operations. -/
abbrev Draw := Nat → Hy → Program → (Nat → String → Option Nat) → Nat → List Oper → RegC
noncomputable def codC (D : Draw) (H : Hy) (P : Program) (mth : Nat → String → Option Nat) (N : Nat) (c : Code) : CodC :=
  match c with
  | .skip => ⟨fun _ A S Kn _ _ => Kn A S⟩
  | .label _ => ⟨fun _ A S Kn _ _ => Kn A S⟩
  | .region _ ops false => ⟨fun call A S Kn _ _ => (regC H P mth N ops.toList ops.toList).f call A S Kn⟩
  | .region id ops true => ⟨fun call A S Kn _ _ => (D id H P mth N ops.toList).f call A S Kn⟩
  | .seq a b => ⟨fun call A S Kn Kx Kr => (codC D H P mth N a).f call A S (fun A S => (codC D H P mth N b).f call A S Kn Kx Kr) Kx Kr⟩
  | .cond x a b => ⟨fun call A S Kn Kx Kr => chk (Nat.beq ((opd N x).f A).s.tag 1) (iff (Nat.beq ((opd N x).f A).s.a 1) ((codC D H P mth N a).f call A S Kn Kx Kr) ((codC D H P mth N b).f call A S Kn Kx Kr))⟩
  | .block id c => ⟨fun call A S Kn Kx Kr => (codC D H P mth N c).f call A S Kn (fun i A S => iff (Nat.beq i id) (Kn A S) (Kx i A S)) Kr⟩
  | .scope c => ⟨fun call A S Kn Kx Kr => (codC D H P mth N c).f call A S Kn Kx Kr⟩
  | .loop c => ⟨fun call A S _ Kx Kr => loopN (fun ih A S => (codC D H P mth N c).f call A S ih Kx Kr) loopFuel A S⟩
  | .exit i => ⟨fun _ A S _ Kx _ => Kx i A S⟩
  | .ret => ⟨fun _ A S _ _ Kr => Kr A S⟩
  | _ => badC
noncomputable def setArgs (N : Nat) (vs : List V) : Nat → Env → Env := List.rec (motive := fun _ => Nat → Env → Env) (fun _ A => A) (fun v _ ih i A => force i (fun i => ih (Nat.add i 1) ((put N (some i)).f v A)) A) vs
noncomputable def env0 : Env := emp (α := V) undefV 3
abbrev ResC := Cl (Env → St → (List V → Ans) → Ans)
noncomputable def resC (P : Program) (N : Nat) (rs : List ResultVar) : ResC :=
  match rs with
  | [] => ⟨fun _ _ k => k []⟩
  | .tmp t :: r => ⟨fun A S k => (resC P N r).f A S (fun vs => k ((opd N (.tmp t)).f A :: vs))⟩
  | .cell a t :: r => if known P t then ⟨fun A S k => ptrD ((opd N (.tmp a)).f A) (fun n o => bnd ((loadAt P t).f n o S) (fun v S => (resC P N r).f A S (fun vs => k (v :: vs))))⟩ else ⟨fun _ _ _ => .no⟩
noncomputable def ret (vs : List V) : V := List.rec (motive := fun _ => V) (mkTup []) (fun v r _ => List.rec (motive := fun _ => V) v (fun _ _ _ => mkTup vs) r) vs
/-- A function that is entered whatever the world. -/
noncomputable def fnOk (P : Program) (g : Nat) : Bool := match P.funcs.toList[g]? with | some fn => (match fn.body with | some _ => decide (fn.name ≠ "runtime.NumGoroutine") | none => false) | none => false
/-- Deferred calls that do nothing where nothing has panicked. -/
noncomputable def idles (P : Program) (idle : Nat → Nat → Bool) (ds : List (Nat × List V)) : Bool := List.rec (motive := fun _ => Bool) true (fun d _ ih => Bool.rec (motive := fun _ => Bool) false ih (Bool.and (idle d.1 d.2.length) (fnOk P d.1))) ds
noncomputable def endC (idle : Nat → Nat → Bool) (P : Program) (N : Nat) (rs : List ResultVar) : Cl (Env → St → Ans) :=
  ⟨fun A S => chk (idles P idle S.ds) ((resC P N rs).f A ⟨S.heap, S.next, []⟩ (fun vs => .ok (ret vs) ⟨S.heap, S.next, []⟩))⟩
abbrev FnC := Cl (Caller → List V → St → Ans)
noncomputable def fnC (D : Nat → Draw) (H : Hy) (P : Program) (mth : Nat → String → Option Nat) (spec : Nat → Option FnC) (idle : Nat → Nat → Bool) (g : Nat) : FnC :=
  match spec g with
  | some c => c
  | none => match P.funcs.toList[g]? with
    | some fn => (match fn.body with
      | some c => Bool.rec (motive := fun _ => FnC) ⟨fun _ _ _ => .no⟩ ⟨fun call vs S => chk (Nat.ble vs.length fn.ntmps) (bnd ((codC (D g) H P mth fn.ntmps c).f call (setArgs fn.ntmps vs 0 env0) ⟨S.heap, S.next, []⟩ (endC idle P fn.ntmps fn.results.toList).f (fun _ _ _ => .no) (endC idle P fn.ntmps fn.results.toList).f) (fun v S' => .ok v ⟨S'.heap, S'.next, S.ds⟩))⟩
          (Bool.and (Nat.ble fn.ntmps 512) (decide (fn.name ≠ "runtime.NumGoroutine")))
      | none => ⟨fun _ _ _ => .no⟩)
    | none => ⟨fun _ _ _ => .no⟩
noncomputable def callN (D : Nat → Draw) (H : Hy) (P : Program) (mth : Nat → String → Option Nat) (spec : Nat → Option FnC) (idle : Nat → Nat → Bool) (n : Nat) : Caller :=
  Nat.rec (motive := fun _ => Caller) (fun _ _ _ => .no) (fun _ ih g vs S => (fnC D H P mth spec idle g).f ih vs S) n
noncomputable def st0 (n : Nat) : St := ⟨emp (α := Blk) blk0 5, n, []⟩
end Go.Exec

namespace Go.Exec
open Go
/-- Names' blocks and capacities, variables' values. -/
structure Nv where
  σ : Nat → Option Nat
  κ : Nat → Nat
  ρ : Nat → Int
  /-- what stays true of the world, and the blocks that it speaks of -/
  I : World → Prop
  F : Nat → Prop
  st : ∀ w w', (∀ b, F b → w'.heap[b]? = w.heap[b]?) → I w → I w'

def Nv.mk0 (σ : Nat → Option Nat) (κ : Nat → Nat) (ρ : Nat → Int) : Nv := ⟨σ, κ, ρ, fun _ => True, fun _ => False, fun _ _ _ h => h⟩
/-- The block that a name points to: names below 256 are the program's variables. -/
def PtrTo (η : Nv) (n b : Nat) : Prop := η.σ n = some b ∨ (n < 256 ∧ b = n)
mutual
inductive SR (η : Nv) : Sc → Value → Prop where
  | unk {s v} (h : s.tag = 0) (h1 : v.oneCell' = true) : SR η s v
  | bool {s} (b : Bool) (h : s.tag = 1) (ha : s.a = cond b 1 0) : SR η s (.bool b)
  | str {s} (t : ByteArray) (h : s.tag = 2) (ha : s.a = t.data.toList.length) (hb : s.b = strOf t.data.toList) : SR η s (.string t)
  | nilp {s} (h : s.tag = 3) : SR η s (.pointer none)
  | ptr {s} (b : Nat) (h : s.tag = 4) (hσ : PtrTo η s.a b) : SR η s (.pointer (some ⟨b, s.b, none⟩))
  | nils {s} (h : s.tag = 5) : SR η s (.slice none 0 0)
  | sl {s} (b : Nat) (h : s.tag = 6) (hσ : η.σ s.a = some b) (hc : s.c ≤ s.d) : SR η s (.slice (some ⟨b, s.b, none⟩) s.c s.d)
  | su {s} (b : Nat) (h : s.tag = 12) (hσ : η.σ s.a = some b) (hc : s.d + s.c ≤ η.κ s.a) : SR η s (.slice (some ⟨b, s.b, none⟩) s.c (η.κ s.a - s.d))
  | fn {s} (xs ys : List Value) (h : s.tag = 7) (hx : SRL η s.xs xs) (hy : SRL η s.ys ys) : SR η s (.func (.func s.a) xs.toArray ys.toArray)
  | nilf {s} (h : s.tag = 8) : SR η s .nilFunc
  | ifc {s} (v : Value) (h : s.tag = 9) (hx : SRL η s.xs [v]) : SR η s (.iface s.a v)
  | nili {s} (h : s.tag = 10) : SR η s .nilIface
  | int {s} (k : IntKind) (h : s.tag = kcode k) (ha : s.a < kmod k) : SR η s (.int k (k.wrap s.a))
  | var {s} (k : IntKind) (h : s.tag = 24) (hb : s.b = kcode k) : SR η s (.int k (η.ρ s.a))
  | ints {s} (k : IntKind) (n : Int) (h : s.tag = 25) (hb : s.b = kcode k) (hn : k.wrap n = n) : SR η s (.int k n)
inductive SRL (η : Nv) : List Sc → List Value → Prop where
  | nil : SRL η [] []
  | cons {s v ss vs} (h : SR η s v) (hs : SRL η ss vs) : SRL η (s :: ss) (v :: vs)
end

structure Nv.le (η ζ : Nv) : Prop where
  σ : ∀ n b, η.σ n = some b → ζ.σ n = some b
  κ : ∀ n b, η.σ n = some b → ζ.κ n = η.κ n
  ρ : ζ.ρ = η.ρ
  I : ζ.I = η.I
  F : ζ.F = η.F
theorem Nv.le.refl (η : Nv) : η.le η := ⟨fun _ _ h => h, fun _ _ _ => rfl, rfl, rfl, rfl⟩
theorem Nv.le.trans {a b c : Nv} (h : a.le b) (k : b.le c) : a.le c :=
  ⟨fun n x hx => k.σ n x (h.σ n x hx), fun n x hx => (k.κ n x (h.σ n x hx)).trans (h.κ n x hx), k.ρ.trans h.ρ, k.I.trans h.I, k.F.trans h.F⟩

mutual
theorem SR.up {η ζ : Nv} (hl : η.le ζ) : ∀ {s v}, SR η s v → SR ζ s v
  | _, _, .unk h h1 => .unk h h1
  | _, _, .bool b h ha => .bool b h ha
  | _, _, .str t h ha hb => .str t h ha hb
  | _, _, .nilp h => .nilp h
  | _, _, .ptr b h hσ => .ptr b h (hσ.imp (hl.σ _ _) id)
  | _, _, .nils h => .nils h
  | _, _, .sl b h hσ hc => .sl b h (hl.σ _ _ hσ) hc
  | _, _, .su (s := s) b h hσ hc => by
    have e := hl.κ _ _ hσ
    rw [← e] at hc ⊢
    exact .su b h (hl.σ _ _ hσ) hc
  | _, _, .fn xs ys h hx hy => .fn xs ys h (hx.up hl) (hy.up hl)
  | _, _, .nilf h => .nilf h
  | _, _, .ifc v h hx => .ifc v h (hx.up hl)
  | _, _, .nili h => .nili h
  | _, _, .int k h ha => .int k h ha
  | _, _, .var (s := s) k h hb => by
    have e : η.ρ s.a = ζ.ρ s.a := by rw [hl.ρ]
    rw [e]
    exact .var k h hb
  | _, _, .ints k n h hb hn => .ints k n h hb hn
theorem SRL.up {η ζ : Nv} (hl : η.le ζ) : ∀ {s v}, SRL η s v → SRL ζ s v
  | _, _, .nil => .nil
  | _, _, .cons h hs => .cons (h.up hl) (hs.up hl)
end

theorem kcode_ge (k : IntKind) : 16 ≤ kcode k ∧ kcode k ≤ 23 := by cases k <;> decide
theorem kcode_inj {j k : IntKind} (h : kcode j = kcode k) : j = k := by cases j <;> cases k <;> first | rfl | (simp [kcode] at h)

section inv
variable {η : Nv} {s : Sc} {v : Value}
theorem SR.asInt {k : IntKind} (h : SR η s v) (ht : s.tag = kcode k) : v = .int k (k.wrap s.a) ∧ s.a < kmod k := by
  have hk := kcode_ge k
  cases h with
  | int j h ha =>
    have : j = k := kcode_inj (h.symm.trans ht)
    subst this
    exact ⟨rfl, ha⟩
  | _ => omega
theorem SR.asAnyInt (h : SR η s v) (h1 : 16 ≤ s.tag) (h2 : s.tag ≤ 23) : ∃ k, s.tag = kcode k ∧ v = .int k (k.wrap s.a) ∧ s.a < kmod k := by
  cases h with
  | int j h ha => exact ⟨j, h, rfl, ha⟩
  | _ => omega
theorem SR.asVar {k : IntKind} (h : SR η s v) (ht : s.tag = 24) (hb : s.b = kcode k) : v = .int k (η.ρ s.a) := by
  cases h with
  | int j h ha => have := kcode_ge j; omega
  | var j h hb' => rw [kcode_inj (hb'.symm.trans hb)]
  | _ => omega
theorem SR.asIk {k : IntKind} (h : SR η s v) (hk : isIk k s = true) : ∃ n, v = .int k n := by
  have hg := kcode_ge k
  unfold isIk at hk
  have ht : s.tag = kcode k ∨ (24 ≤ s.tag ∧ s.tag ≤ 25 ∧ s.b = kcode k) := by
    cases h1 : Nat.beq s.tag (kcode k) with
    | true => exact .inl (Nat.eq_of_beq_eq_true h1)
    | false =>
      rw [h1] at hk
      simp only [Bool.or_eq_true, Bool.and_eq_true, Bool.false_eq_true, false_or] at hk
      exact .inr ⟨Nat.le_of_ble_eq_true hk.1.1, Nat.le_of_ble_eq_true hk.1.2, Nat.eq_of_beq_eq_true hk.2⟩
  cases h with
  | int j h ha =>
    rcases ht with ht | ⟨ht, -, -⟩
    · rw [kcode_inj (h.symm.trans ht)]; exact ⟨_, rfl⟩
    · have := kcode_ge j; omega
  | var j h hb =>
    rcases ht with ht | ⟨-, -, ht⟩
    · omega
    · rw [kcode_inj (hb.symm.trans ht)]; exact ⟨_, rfl⟩
  | ints j n h hb hn =>
    rcases ht with ht | ⟨-, -, ht⟩
    · omega
    · rw [kcode_inj (hb.symm.trans ht)]; exact ⟨_, rfl⟩
  | _ => omega
theorem SR.asBool (h : SR η s v) (ht : s.tag = 1) : ∃ b, v = .bool b ∧ s.a = cond b 1 0 := by
  cases h with
  | bool b h ha => exact ⟨b, rfl, ha⟩
  | int j h ha => have := kcode_ge j; omega
  | _ => omega
theorem SR.asStr (h : SR η s v) (ht : s.tag = 2) : ∃ t : ByteArray, v = .string t ∧ s.a = t.data.toList.length ∧ s.b = strOf t.data.toList := by
  cases h with
  | str t h ha hb => exact ⟨t, rfl, ha, hb⟩
  | int j h ha => have := kcode_ge j; omega
  | _ => omega
theorem SR.asNilp (h : SR η s v) (ht : s.tag = 3) : v = .pointer none := by
  cases h with
  | nilp h => rfl
  | int j h ha => have := kcode_ge j; omega
  | _ => omega
theorem SR.asPtr (h : SR η s v) (ht : s.tag = 4) : ∃ b, PtrTo η s.a b ∧ v = .pointer (some ⟨b, s.b, none⟩) := by
  cases h with
  | ptr b h hσ => exact ⟨b, hσ, rfl⟩
  | int j h ha => have := kcode_ge j; omega
  | _ => omega
theorem SR.asNils (h : SR η s v) (ht : s.tag = 5) : v = .slice none 0 0 := by
  cases h with
  | nils h => rfl
  | int j h ha => have := kcode_ge j; omega
  | _ => omega
theorem SR.asSl (h : SR η s v) (ht : s.tag = 6) : ∃ b, η.σ s.a = some b ∧ v = .slice (some ⟨b, s.b, none⟩) s.c s.d ∧ s.c ≤ s.d := by
  cases h with
  | sl b h hσ hc => exact ⟨b, hσ, rfl, hc⟩
  | int j h ha => have := kcode_ge j; omega
  | _ => omega
theorem SR.asSu (h : SR η s v) (ht : s.tag = 12) : ∃ b, η.σ s.a = some b ∧ v = .slice (some ⟨b, s.b, none⟩) s.c (η.κ s.a - s.d) ∧ s.d + s.c ≤ η.κ s.a := by
  cases h with
  | su b h hσ hc => exact ⟨b, hσ, rfl, hc⟩
  | int j h ha => have := kcode_ge j; omega
  | _ => omega
theorem SR.asFn (h : SR η s v) (ht : s.tag = 7) : ∃ xs ys, v = .func (.func s.a) xs.toArray ys.toArray ∧ SRL η s.xs xs ∧ SRL η s.ys ys := by
  cases h with
  | fn xs ys h hx hy => exact ⟨xs, ys, rfl, hx, hy⟩
  | int j h ha => have := kcode_ge j; omega
  | _ => omega
theorem SR.asIfc (h : SR η s v) (ht : s.tag = 9) : ∃ u, v = .iface s.a u ∧ SRL η s.xs [u] := by
  cases h with
  | ifc u h hx => exact ⟨u, rfl, hx⟩
  | int j h ha => have := kcode_ge j; omega
  | _ => omega
theorem SR.one (h : SR η s v) : v.oneCell' = true := by
  cases h <;> first | rfl | assumption
theorem SR.lt98 (h : SR η s v) : s.tag ≤ 25 := by
  cases h with
  | int k h => have := kcode_ge k; omega
  | _ => omega
end inv

mutual
inductive VR (η : Nv) : V → Value → Prop where
  | sc {v x} (h : SR η v.s x) : VR η v x
  | agg {v} (cs : Array Value) (h : v.s.tag = 98) (ha : v.s.a = cs.size) (hs : cs.size ≤ 32768) (hc : ∀ i x, cs[i]? = some x → SR η ((accC i).f v.cs) x) : VR η v (.agg cs)
  | tup {v} (xs : List Value) (h : v.s.tag = 99) (hx : VRL η v.vs xs) : VR η v (.tuple xs.toArray)
  | any {v x} (h : v.s.tag = 100) : VR η v x
  | arg {v} (k : IntKind) (base : Option Addr) (n m : Nat) (h : v.s.tag = 101) (hk : v.s.a = kcode k) (hn : η.ρ v.s.b = (n : Int)) (hc : ∀ j, j < v.s.c → j < n ∧ ∃ ad, base = some ad ∧ ∀ w, η.I w → w.cell? (ad.add j) = some (.int k (η.ρ (v.s.d + j)))) : VR η v (.slice base n m)
  | argx {v} (k : IntKind) (base : Option Addr) (n m : Nat) (h : v.s.tag = 103) (hk : v.s.a = kcode k) (hn : η.ρ v.s.b = (n : Int)) (hc : ∀ j, j < v.s.c → ∃ i : Nat, η.ρ (v.s.d + j) = (i : Int) ∧ i < n ∧ ∃ ad, base = some ad ∧ ∀ w, η.I w → w.cell? (ad.add i) = some (.int k (η.ρ (v.s.d + j + v.s.c)))) : VR η v (.slice base n m)
  | argp {v} (k : IntKind) (ad : Addr) (h : v.s.tag = 102) (hk : v.s.b = kcode k) (hc : ∀ w, η.I w → w.cell? ad = some (.int k (η.ρ v.s.a))) : VR η v (.pointer (some ad))
inductive VRL (η : Nv) : List V → List Value → Prop where
  | nil : VRL η [] []
  | cons {v x vs xs} (h : VR η v x) (hs : VRL η vs xs) : VRL η (v :: vs) (x :: xs)
end
mutual
theorem VR.up {η ζ : Nv} (hl : η.le ζ) : ∀ {s v}, VR η s v → VR ζ s v
  | _, _, .sc h => .sc (h.up hl)
  | _, _, .agg cs h ha hs hc => .agg cs h ha hs (fun i x hx => (hc i x hx).up hl)
  | _, _, .tup xs h hx => .tup xs h (hx.up hl)
  | _, _, .any h => .any h
  | _, _, .arg k base n m h hk hn hc => .arg k base n m h hk (by rw [hl.ρ]; exact hn) (fun j hj => by
      obtain ⟨h1, ad, h2, h3⟩ := hc j hj
      exact ⟨h1, ad, h2, fun w hw => by rw [hl.ρ]; exact h3 w (by rw [← hl.I]; exact hw)⟩)
  | _, _, .argx k base n m h hk hn hc => .argx k base n m h hk (by rw [hl.ρ]; exact hn) (fun j hj => by
      obtain ⟨i, h0, h1, ad, h2, h3⟩ := hc j hj
      exact ⟨i, by rw [hl.ρ]; exact h0, h1, ad, h2, fun w hw => by rw [hl.ρ]; exact h3 w (by rw [← hl.I]; exact hw)⟩)
  | _, _, .argp k ad h hk hc => .argp k ad h hk (fun w hw => by rw [hl.ρ]; exact hc w (by rw [← hl.I]; exact hw))
theorem VRL.up {η ζ : Nv} (hl : η.le ζ) : ∀ {s v}, VRL η s v → VRL ζ s v
  | _, _, .nil => .nil
  | _, _, .cons h hs => .cons (h.up hl) (hs.up hl)
end
theorem VR.asSc {η : Nv} {v : V} {x : Value} (h : VR η v x) (ht : v.s.tag ≤ 97) : SR η v.s x := by
  cases h with
  | sc h => exact h
  | agg cs h => omega
  | tup xs h => omega
  | any h => omega
  | arg k base n m h => omega
  | argx k base n m h => omega
  | argp k ad h => omega
theorem VR.asAgg {η : Nv} {v : V} {x : Value} (h : VR η v x) (ht : v.s.tag = 98) : ∃ cs : Array Value, x = .agg cs ∧ v.s.a = cs.size ∧ cs.size ≤ 32768 ∧ ∀ i y, cs[i]? = some y → SR η ((accC i).f v.cs) y := by
  cases h with
  | sc h => have := h.lt98; omega
  | agg cs h ha hs hc => exact ⟨cs, rfl, ha, hs, hc⟩
  | tup xs h => omega
  | any h => omega
  | arg k base n m h => omega
  | argx k base n m h => omega
  | argp k ad h => omega
theorem VR.asArg {η : Nv} {v : V} {x : Value} (h : VR η v x) (ht : v.s.tag = 101) : ∃ k base n m, x = .slice base n m ∧ v.s.a = kcode k ∧ η.ρ v.s.b = (n : Int) ∧ ∀ j, j < v.s.c → j < n ∧ ∃ ad, base = some ad ∧ ∀ w, η.I w → w.cell? (ad.add j) = some (.int k (η.ρ (v.s.d + j))) := by
  cases h with
  | sc h => have := h.lt98; omega
  | agg cs h => omega
  | tup xs h => omega
  | any h => omega
  | arg k base n m h hk hn hc => exact ⟨k, base, n, m, rfl, hk, hn, hc⟩
  | argx k base n m h => omega
  | argp k ad h => omega
theorem VR.asArgp {η : Nv} {v : V} {x : Value} (h : VR η v x) (ht : v.s.tag = 102) : ∃ k ad, x = .pointer (some ad) ∧ v.s.b = kcode k ∧ ∀ w, η.I w → w.cell? ad = some (.int k (η.ρ v.s.a)) := by
  cases h with
  | sc h => have := h.lt98; omega
  | agg cs h => omega
  | tup xs h => omega
  | any h => omega
  | arg k base n m h => omega
  | argx k base n m h => omega
  | argp k ad h hk hc => exact ⟨k, ad, rfl, hk, hc⟩
theorem VR.asArgx {η : Nv} {v : V} {x : Value} (h : VR η v x) (ht : v.s.tag = 103) : ∃ k base n m, x = .slice base n m ∧ v.s.a = kcode k ∧ η.ρ v.s.b = (n : Int) ∧ ∀ j, j < v.s.c → ∃ i : Nat, η.ρ (v.s.d + j) = (i : Int) ∧ i < n ∧ ∃ ad, base = some ad ∧ ∀ w, η.I w → w.cell? (ad.add i) = some (.int k (η.ρ (v.s.d + j + v.s.c))) := by
  cases h with
  | sc h => have := h.lt98; omega
  | agg cs h => omega
  | tup xs h => omega
  | any h => omega
  | arg k base n m h => omega
  | argx k base n m h hk hn hc => exact ⟨k, base, n, m, rfl, hk, hn, hc⟩
  | argp k ad h => omega
theorem VR.asTup {η : Nv} {v : V} {x : Value} (h : VR η v x) (ht : v.s.tag = 99) : ∃ xs : List Value, x = .tuple xs.toArray ∧ VRL η v.vs xs := by
  cases h with
  | sc h => have := h.lt98; omega
  | agg cs h => omega
  | tup xs h hx => exact ⟨xs, rfl, hx⟩
  | any h => omega
  | arg k base n m h => omega
  | argx k base n m h => omega
  | argp k ad h => omega

/-- A store that stands for a world's blocks. -/
structure Live (P : Program) (η : Nv) (B : Blk) (n b : Nat) (w : World) : Prop where
  σ : η.σ n = some b
  size : B.size ≤ 32768
  cap : B.size ≤ η.κ n * sizeT P B.elem
  cell : ∀ i, i < B.size → ∃ v, w.cell? ⟨b, i, none⟩ = some v ∧ SR η ((accC i).f B.cs) v
  all : ∀ i, i < η.κ n * sizeT P B.elem → (w.cell? ⟨b, i, none⟩).isSome = true ∧ w.frozen? ⟨b, i, none⟩ = false
noncomputable def blkAt (S : St) (n : Nat) : Blk := (getB n).f S
structure Rep (P : Program) (η : Nv) (S : St) (w : World) : Prop where
  live : ∀ n, n < 32768 → 0 < (blkAt S n).size → ∃ b, Live P η (blkAt S n) n b w
  inj : ∀ n m b, n < 32768 → m < 32768 → 0 < (blkAt S n).size → 0 < (blkAt S m).size → η.σ n = some b → η.σ m = some b → n = m
  new : ∀ n, S.next ≤ n → η.σ n = none
  low : ∀ n b, η.σ n = some b → b < w.heap.size
  own : ∀ n b, n < 256 → η.σ n = some b → b = n
  top : 256 ≤ S.next
  inv : η.I w
  foot : ∀ b, η.F b → b < w.heap.size ∧ ∀ n, n < 32768 → 0 < (blkAt S n).size → η.σ n ≠ some b
theorem PtrTo.live {P : Program} {η : Nv} {S : St} {w : World} {n b : Nat} (h : PtrTo η n b) (hR : Rep P η S w) (hn : n < 32768) (hl : 0 < (blkAt S n).size) : η.σ n = some b := by
  rcases h with h | ⟨h1, rfl⟩
  · exact h
  · obtain ⟨b', hb⟩ := hR.live _ hn hl
    have := hR.own _ b' h1 hb.σ
    subst this
    exact hb.σ
/-- Nothing else is touched. -/
structure Fr (η : Nv) (S : St) (w w' : World) : Prop where
  os : w'.os = w.os
  tape : w'.tape = w.tape
  output : w'.output = w.output
  size : w.heap.size ≤ w'.heap.size
  block : ∀ b, b < w.heap.size → (∀ n, 272 ≤ n → n < 32768 → 0 < (blkAt S n).size → η.σ n ≠ some b) → w'.heap[b]? = w.heap[b]?
/-- A step of names: the new ones lie in new blocks or in those of live ones. -/
structure Ext (η : Nv) (S : St) (w : World) (ζ : Nv) (S' : St) : Prop where
  le : η.le ζ
  next : S.next ≤ S'.next
  live : ∀ n b, n < 32768 → 0 < (blkAt S' n).size → ζ.σ n = some b → w.heap.size ≤ b ∨ ∃ m, (272 ≤ n → 272 ≤ m) ∧ m < 32768 ∧ 0 < (blkAt S m).size ∧ η.σ m = some b
  fresh : ∀ n, n < S.next → ζ.σ n = η.σ n
structure Move (P : Program) (η : Nv) (S : St) (w : World) (ζ : Nv) (S' : St) (w' : World) : Prop where
  ext : Ext η S w ζ S'
  rep : Rep P ζ S' w'
  fr : Fr η S w w'
theorem Fr.refl (η : Nv) (S : St) (w : World) : Fr η S w w := ⟨rfl, rfl, rfl, Nat.le_refl _, fun _ _ _ => rfl⟩
theorem Move.refl {P : Program} {η : Nv} {S : St} {w : World} (h : Rep P η S w) : Move P η S w η S w :=
  ⟨⟨Nv.le.refl η, Nat.le_refl _, fun n _ hn hl hb => .inr ⟨n, id, hn, hl, hb⟩, fun _ _ => rfl⟩, h, Fr.refl η S w⟩
theorem Move.trans {P : Program} {η ζ θ : Nv} {S S' S'' : St} {w w' w'' : World} (h : Move P η S w ζ S' w') (k : Move P ζ S' w' θ S'' w'') : Move P η S w θ S'' w'' := by
  refine ⟨⟨h.ext.le.trans k.ext.le, Nat.le_trans h.ext.next k.ext.next, fun n b hn hl hb => ?_, fun n hn => (k.ext.fresh n (Nat.lt_of_lt_of_le hn h.ext.next)).trans (h.ext.fresh n hn)⟩, k.rep, ⟨k.fr.os.trans h.fr.os, k.fr.tape.trans h.fr.tape, k.fr.output.trans h.fr.output, Nat.le_trans h.fr.size k.fr.size, fun b hb hn => ?_⟩⟩
  · rcases k.ext.live n b hn hl hb with h1 | ⟨m, hm0, hm, hml, hmb⟩
    · exact .inl (Nat.le_trans h.fr.size h1)
    · rcases h.ext.live m b hm hml hmb with h2 | ⟨r, hr0, hr⟩
      · exact .inl h2
      · exact .inr ⟨r, fun h3 => hr0 (hm0 h3), hr⟩
  · rw [k.fr.block b (Nat.lt_of_lt_of_le hb h.fr.size) (fun n h0 h1 h2 h3 => ?_), h.fr.block b hb hn]
    rcases h.ext.live n b h1 h2 h3 with h4 | ⟨m, hm0, hm, hml, hmb⟩
    · omega
    · exact hn m (hm0 h0) hm hml hmb
end Go.Exec

namespace Go.Exec
open Go
theorem accC_updC_same (i : Nat) (x : Sc) (c : Cells) : (accC i).f ((updC i).f x c) = x := by
  unfold accC updC
  cases Nat.ble i 7
  · exact acc_upd_same (α := Sc) x 5 i _
  · exact acc_upd_same (α := Sc) x 1 i _
theorem accC_updC_ne {i j : Nat} (x : Sc) (c : Cells) (hi : i < 32768) (hj : j < 32768) (hne : i ≠ j) : (accC j).f ((updC i).f x c) = (accC j).f c := by
  unfold accC updC
  cases hbi : Nat.ble i 7 <;> cases hbj : Nat.ble j 7 <;> simp only
  · exact acc_upd_ne (α := Sc) x 5 i j _ (by omega) (by omega) hne
  · have h1 := Nat.le_of_ble_eq_true hbi; have h2 := Nat.le_of_ble_eq_true hbj
    exact acc_upd_ne (α := Sc) x 1 i j _ (by omega) (by omega) hne
theorem accC_tabC {i : Nat} (f : Nat → Sc) (hi : i < 32768) : (accC i).f (tabC f) = f i := by
  unfold accC tabC
  cases hbi : Nat.ble i 7
  · exact acc_tab (α := Sc) 5 i f (by omega)
  · have h1 := Nat.le_of_ble_eq_true hbi
    exact acc_tab (α := Sc) 1 i f (by omega)
theorem accC_one (s : Sc) : (accC 0).f (one s) = s := rfl
theorem accC_sub (o i : Nat) (c : Cells) (hi : i < 32768) : (accC i).f ((subC o).f c) = (accC (o + i)).f c := by
  unfold subC
  cases hb : Nat.beq o 0
  · exact accC_tabC _ hi
  · have := Nat.eq_of_beq_eq_true hb
    subst this
    simp
theorem accC_sets_in (src : Nat → Sc) (d : Nat) : ∀ (k i : Nat) (c : Cells), d + (i + k) ≤ 32768 → ∀ j, j < 32768 →
    (accC j).f (Nat.rec (motive := fun _ => Nat → Cells → Cells) (fun _ c => c) (fun _ ih i c => ih (Nat.add i 1) ((updC (Nat.add d i)).f (src i) c)) k i c) = if d + i ≤ j ∧ j < d + i + k then src (j - d) else (accC j).f c := by
  intro k
  induction k with
  | zero => intro i c _ j _; rw [if_neg (by omega)]; rfl
  | succ k ih =>
    intro i c hl j hj
    have := ih (i + 1) ((updC (d + i)).f (src i) c) (by omega) j hj
    refine this.trans ?_
    by_cases h1 : d + (i + 1) ≤ j ∧ j < d + (i + 1) + k
    · rw [if_pos h1, if_pos (by omega)]
    · rw [if_neg h1]
      by_cases h2 : j = d + i
      · subst h2
        rw [accC_updC_same, if_pos (by omega)]
        congr 1; omega
      · rw [accC_updC_ne _ _ (by omega) hj (by omega), if_neg (by omega)]
theorem accC_paste (so d k : Nat) (s c : Cells) (hd : d + k ≤ 32768) {j : Nat} (hj : j < 32768) :
    (accC j).f ((paste so d k).f s c) = if d ≤ j ∧ j < d + k then (accC (so + (j - d))).f s else (accC j).f c := by
  unfold paste
  cases hb : Nat.ble k 8
  · refine (accC_tabC _ hj).trans ?_
    by_cases h : d ≤ j ∧ j < d + k
    · rw [if_pos h]
      have h1 : Nat.ble d j = true := Nat.ble_eq_true_of_le h.1
      have h2 : Nat.blt j (Nat.add d k) = true := Nat.ble_eq_true_of_le h.2
      simp only [h1, h2, Bool.and_self]
      rfl
    · rw [if_neg h]
      have h2 : Bool.and (Nat.ble d j) (Nat.blt j (Nat.add d k)) = false := by
        rw [Bool.eq_false_iff]
        intro hh
        have hh' : (Nat.ble d j && Nat.blt j (Nat.add d k)) = true := hh
        rw [Bool.and_eq_true] at hh'
        exact h ⟨Nat.le_of_ble_eq_true hh'.1, Nat.le_of_ble_eq_true hh'.2⟩
      simp only [h2]
  · have := accC_sets_in (fun i => (accC (so + i)).f s) d k 0 c (by omega) j hj
    simp only [Nat.add_zero] at this
    exact this

theorem blkAt_put_same (S : St) (n : Nat) (B : Blk) : blkAt ((putB n).f B S) n = B := acc_upd_same (α := Blk) B 5 n _
theorem blkAt_put_ne (S : St) {n m : Nat} (B : Blk) (hn : n < 32768) (hm : m < 32768) (h : n ≠ m) : blkAt ((putB n).f B S) m = blkAt S m := acc_upd_ne (α := Blk) B 5 n m _ (by omega) (by omega) h
theorem blkAt_up_same (S : St) (n x : Nat) (B : Blk) (ds) : blkAt ⟨(updH n).f B S.heap, x, ds⟩ n = B := acc_upd_same (α := Blk) B 5 n _
theorem blkAt_up_ne (S : St) {n m : Nat} (x : Nat) (B : Blk) (ds) (hn : n < 32768) (hm : m < 32768) (h : n ≠ m) : blkAt ⟨(updH n).f B S.heap, x, ds⟩ m = blkAt S m := acc_upd_ne (α := Blk) B 5 n m _ (by omega) (by omega) h

def Nv.set (η : Nv) (n b k : Nat) : Nv := ⟨fun m => if m = n then some b else η.σ m, fun m => if m = n then k else η.κ m, η.ρ, η.I, η.F, η.st⟩
theorem Nv.le_set {η : Nv} {n : Nat} (h : η.σ n = none) (b k : Nat) : η.le (η.set n b k) := by
  refine ⟨fun m x hm => ?_, fun m x hm => ?_, rfl, rfl, rfl⟩
  · have : m ≠ n := by rintro rfl; rw [h] at hm; cases hm
    simp [Nv.set, this, hm]
  · have : m ≠ n := by rintro rfl; rw [h] at hm; cases hm
    simp [Nv.set, this]

theorem cell_alloc_lt {w : World} {o : Obj} {b i : Nat} (h : b < w.heap.size) : (w.alloc o).cell? ⟨b, i, none⟩ = w.cell? ⟨b, i, none⟩ := World.cell?_alloc_past o b i h
theorem frozen_alloc_lt {w : World} {o : Obj} {b i : Nat} (h : b < w.heap.size) : (w.alloc o).frozen? ⟨b, i, none⟩ = w.frozen? ⟨b, i, none⟩ := World.frozen?_alloc_past o b i h
theorem cell_alloc_at {w : World} {c : Array Value} {e : TypeId} {fz : Nat × Nat} (i : Nat) : (w.alloc (.cells c e fz)).cell? ⟨w.heap.size, i, none⟩ = c[i]? := World.cell?_alloc_mark w c e fz i
theorem frozen_alloc_at {w : World} {c : Array Value} {e : TypeId} {lo hi : Nat} (i : Nat) : (w.alloc (.cells c e (lo, hi))).frozen? ⟨w.heap.size, i, none⟩ = (decide (lo ≤ i) && decide (i < hi)) := World.frozen?_alloc_mark w c e lo hi i

/-- A new block. -/
theorem move_new {P : Program} {η : Nv} {S : St} {w : World} (hR : Rep P η S w) {z e : Nat} {cs : Cells} {c : Array Value} {k : Nat} {lo hi : Nat} (hn : S.next < 32768) (hz : z ≤ 32768) (hk : c.size = k * sizeT P e) (hzc : z ≤ c.size) (hlo : c.size ≤ lo ∨ hi ≤ lo)
    (hc : ∀ i x, i < z → c[i]? = some x → SR η ((accC i).f cs) x) (ds : List (Nat × List V)) :
    Move P η S w (η.set S.next w.heap.size k) ⟨(updH S.next).f ⟨z, e, cs⟩ S.heap, S.next + 1, ds⟩ (w.alloc (.cells c e (lo, hi))) := by
  have hnone := hR.new S.next (Nat.le_refl _)
  have hle := Nv.le_set hnone w.heap.size k
  have hsame := blkAt_up_same S S.next (S.next + 1) ⟨z, e, cs⟩ ds
  have hne : ∀ m, m < 32768 → m ≠ S.next → blkAt ⟨(updH S.next).f ⟨z, e, cs⟩ S.heap, S.next + 1, ds⟩ m = blkAt S m := fun m hm h => blkAt_up_ne S _ _ ds hn hm (Ne.symm h)
  have hset : ∀ m, m ≠ S.next → (η.set S.next w.heap.size k).σ m = η.σ m := fun m h => by simp [Nv.set, h]
  have hsetk : ∀ m, m ≠ S.next → (η.set S.next w.heap.size k).κ m = η.κ m := fun m h => by simp [Nv.set, h]
  have hat : (η.set S.next w.heap.size k).σ S.next = some w.heap.size := by simp [Nv.set]
  have hatk : (η.set S.next w.heap.size k).κ S.next = k := by simp [Nv.set]
  refine ⟨⟨hle, Nat.le_succ _, fun n b h1 h2 h3 => ?_, fun n hn' => hset n (Nat.ne_of_lt hn')⟩, ⟨fun n h1 h2 => ?_, fun n m b h1 h2 h3 h4 h5 h6 => ?_, fun n hn' => ?_, fun n b hb => ?_, fun n b hn hb => hR.own n b hn (by rw [← hset n (by have := hR.top; omega)]; exact hb), Nat.le_succ_of_le hR.top, η.st _ _ (fun b hb => RowKit.Below.heap_alloc _ _ _ (hR.foot b hb).1) hR.inv, fun b hb => ⟨Nat.lt_of_lt_of_le (hR.foot b hb).1 (by simp), fun n h1 h2 h3 => ?_⟩⟩, ⟨rfl, rfl, rfl, by simp, fun b hb _ => RowKit.Below.heap_alloc _ _ _ hb⟩⟩
  · by_cases h : n = S.next
    · subst h; rw [hat] at h3; cases h3; exact .inl (Nat.le_refl _)
    · rw [hne n h1 h] at h2; rw [hset n h] at h3; exact .inr ⟨n, id, h1, h2, h3⟩
  · by_cases h : n = S.next
    · subst h
      refine ⟨w.heap.size, ?_⟩
      rw [hsame]
      refine ⟨hat, hz, by rw [hatk, ← hk]; exact hzc, fun i hi' => ?_, fun i hi' => ?_⟩
      · have hlt : i < c.size := Nat.lt_of_lt_of_le hi' hzc
        exact ⟨c[i], by rw [cell_alloc_at, Array.getElem?_eq_getElem hlt], (hc i c[i] hi' (Array.getElem?_eq_getElem hlt)).up hle⟩
      · rw [hatk, ← hk] at hi'
        refine ⟨by rw [cell_alloc_at, Array.getElem?_eq_getElem hi']; rfl, ?_⟩
        rw [frozen_alloc_at]
        simp only [Bool.and_eq_false_imp, decide_eq_true_eq, decide_eq_false_iff_not]
        omega
    · rw [hne n h1 h] at h2 ⊢
      obtain ⟨b, hb⟩ := hR.live n h1 h2
      have hlt := hR.low n b hb.σ
      refine ⟨b, (hset n h).trans hb.σ, hb.size, by rw [hsetk n h]; exact hb.cap, fun i hi' => ?_, fun i hi' => ?_⟩
      · obtain ⟨v, hv, hs⟩ := hb.cell i hi'
        exact ⟨v, by rw [cell_alloc_lt hlt]; exact hv, hs.up hle⟩
      · rw [hsetk n h] at hi'
        rw [cell_alloc_lt hlt, frozen_alloc_lt hlt]
        exact hb.all i hi'
  · by_cases hn1 : n = S.next <;> by_cases hm1 : m = S.next
    · rw [hn1, hm1]
    · subst hn1; rw [hat] at h5; rw [hset m hm1] at h6; cases h5; exact absurd (hR.low m _ h6) (Nat.lt_irrefl _)
    · subst hm1; rw [hat] at h6; rw [hset n hn1] at h5; cases h6; exact absurd (hR.low n _ h5) (Nat.lt_irrefl _)
    · rw [hne n h1 hn1] at h3; rw [hne m h2 hm1] at h4; rw [hset n hn1] at h5; rw [hset m hm1] at h6
      exact hR.inj n m b h1 h2 h3 h4 h5 h6
  · have : n ≠ S.next := by have : S.next + 1 ≤ n := hn'; omega
    rw [hset n this]; exact hR.new n (Nat.le_trans (Nat.le_succ _) hn')
  · by_cases h : n = S.next
    · subst h; rw [hat] at hb; cases hb; simp
    · rw [hset n h] at hb
      have := hR.low n b hb
      simp; omega
  · by_cases h : n = S.next
    · subst h; rw [hat] at h3; cases h3; exact absurd (hR.foot _ hb).1 (Nat.lt_irrefl _)
    · rw [hne n h1 h] at h2; rw [hset n h] at h3; exact (hR.foot b hb).2 n h1 h2 h3
theorem Rep.drew {P : Program} {η : Nv} {S : St} {w : World} (h : Rep P η S w) : Rep P η S w.drew :=
  ⟨fun n h1 h2 => let ⟨b, hb⟩ := h.live n h1 h2; ⟨b, hb.σ, hb.size, hb.cap, hb.cell, hb.all⟩, h.inj, h.new, h.low, h.own, h.top, η.st w w.drew (fun _ _ => rfl) h.inv, h.foot⟩
theorem move_drew {P : Program} {η : Nv} {S : St} {w : World} (h : Rep P η S w) : Move P η S w η S w.drew :=
  ⟨⟨Nv.le.refl η, Nat.le_refl _, fun n _ hn hl hb => .inr ⟨n, id, hn, hl, hb⟩, fun _ _ => rfl⟩, h.drew, ⟨rfl, rfl, rfl, Nat.le_refl _, fun _ _ _ => rfl⟩⟩
theorem setCells_heap_size (b : Nat) : ∀ (vs : List Value) (o : Nat) (w : World), (w.setCells b o vs).heap.size = w.heap.size
  | [], _, _ => rfl
  | v :: r, o, w => by rw [World.setCells, setCells_heap_size b r]; simp [World.setCell]
theorem setCells_os (b : Nat) : ∀ (vs : List Value) (o : Nat) (w : World), (w.setCells b o vs).os = w.os ∧ (w.setCells b o vs).tape = w.tape ∧ (w.setCells b o vs).output = w.output
  | [], _, _ => ⟨rfl, rfl, rfl⟩
  | v :: r, o, w => by rw [World.setCells]; exact setCells_os b r (o + 1) _
theorem setCells_block (b : Nat) {k : Nat} (hk : k ≠ b) : ∀ (vs : List Value) (o : Nat) (w : World), (w.setCells b o vs).heap[k]? = w.heap[k]?
  | [], _, _ => rfl
  | v :: r, o, w => by rw [World.setCells, setCells_block b hk r]; exact RowKit.Below.heap_setCell _ _ _ _ hk
/-- Cells of a live block are written. -/
theorem move_cells {P : Program} {η : Nv} {S : St} {w : World} (hR : Rep P η S w) {n b o : Nat} {cs : Cells} {vs : List Value} (hn0 : 272 ≤ n) (hn : n < 32768) (hpos : 0 < (blkAt S n).size) (hσ : η.σ n = some b) (hfit : o + vs.length ≤ (blkAt S n).size)
    (hin : ∀ j (hj : j < vs.length), SR η ((accC (o + j)).f cs) vs[j]) (hout : ∀ i, i < (blkAt S n).size → (i < o ∨ o + vs.length ≤ i) → (accC i).f cs = (accC i).f (blkAt S n).cs) :
    Move P η S w η ((putB n).f (withCs (blkAt S n) cs) S) (w.setCells b o vs) := by
  obtain ⟨b', hb⟩ := hR.live n hn hpos
  obtain rfl : b = b' := by have := hb.σ; rw [hσ] at this; injection this
  have hsame := blkAt_put_same S n (withCs (blkAt S n) cs)
  have hne : ∀ m, m < 32768 → m ≠ n → blkAt ((putB n).f (withCs (blkAt S n) cs) S) m = blkAt S m := fun m hm h => blkAt_put_ne S _ hn hm (Ne.symm h)
  have hsz : ∀ m, m < 32768 → (blkAt ((putB n).f (withCs (blkAt S n) cs) S) m).size = (blkAt S m).size := fun m hm => by
    by_cases h : m = n
    · subst h; rw [hsame]; rfl
    · rw [hne m hm h]
  have hcapn := hb.cap
  have hfree : ∀ a, (w.setCells b o vs).frozen? a = w.frozen? a := fun a => World.frozen?_setCells b vs o w a
  have hsome : ∀ j, j < vs.length → (w.cell? ⟨b, o + j, none⟩).isSome = true := fun j hj => (hb.all (o + j) (by omega)).1
  refine ⟨⟨Nv.le.refl η, Nat.le_refl _, fun m x hm hl hx => .inr ⟨m, id, hm, by rw [hsz m hm] at hl; exact hl, hx⟩, fun _ _ => rfl⟩, ⟨fun m hm hl => ?_, fun m k x h1 h2 h3 h4 h5 h6 => ?_, hR.new, fun m x hx => ?_, hR.own, hR.top, η.st _ _ (fun x hx => setCells_block b (fun e => (hR.foot x hx).2 n hn hpos (by rw [e]; exact hσ)) vs o w) hR.inv, fun x hx => ⟨by rw [setCells_heap_size]; exact (hR.foot x hx).1, fun m hm hl => (hR.foot x hx).2 m hm (by rw [hsz m hm] at hl; exact hl)⟩⟩, ?_⟩
  · rw [hsz m hm] at hl
    by_cases h : m = n
    · subst h
      refine ⟨b, ?_⟩
      rw [hsame]
      refine ⟨hσ, hb.size, hb.cap, fun i hi => ?_, fun i hi => ?_⟩
      · by_cases hio : o ≤ i ∧ i < o + vs.length
        · obtain ⟨j, rfl⟩ : ∃ j, i = o + j := ⟨i - o, by omega⟩
          have hj : j < vs.length := by omega
          exact ⟨vs[j], World.cell?_setCells_in b vs o w hsome j hj, hin j hj⟩
        · have hcut : i < o ∨ o + vs.length ≤ i := by omega
          obtain ⟨v, hv, hs⟩ := hb.cell i hi
          refine ⟨v, ?_, ?_⟩
          · rw [World.cell?_setCells_out b vs o w _ (fun _ _ => hcut)]; exact hv
          · rw [show (withCs (blkAt S m) cs).cs = cs from rfl, hout i hi hcut]; exact hs
      · refine ⟨?_, by rw [hfree]; exact (hb.all i hi).2⟩
        by_cases hio : o ≤ i ∧ i < o + vs.length
        · obtain ⟨j, rfl⟩ : ∃ j, i = o + j := ⟨i - o, by omega⟩
          rw [World.cell?_setCells_in b vs o w hsome j (by omega)]; rfl
        · rw [World.cell?_setCells_out b vs o w _ (fun _ _ => show i < o ∨ o + vs.length ≤ i by omega)]; exact (hb.all i hi).1
    · rw [hne m hm h]
      obtain ⟨x, hx⟩ := hR.live m hm hl
      have hxb : x ≠ b := fun e => h (hR.inj m n b hm hn hl hpos (by rw [← e]; exact hx.σ) hσ)
      have hc : ∀ i, (w.setCells b o vs).cell? ⟨x, i, none⟩ = w.cell? ⟨x, i, none⟩ := fun i => World.cell?_setCells_out b vs o w _ (fun e _ => absurd e hxb)
      exact ⟨x, hx.σ, hx.size, hx.cap, fun i hi => by rw [hc]; exact hx.cell i hi, fun i hi => by rw [hc, hfree]; exact hx.all i hi⟩
  · rw [hsz m h1] at h3; rw [hsz k h2] at h4; exact hR.inj m k x h1 h2 h3 h4 h5 h6
  · rw [setCells_heap_size]; exact hR.low m x hx
  · obtain ⟨e1, e2, e3⟩ := setCells_os b vs o w
    refine ⟨e1, e2, e3, by rw [setCells_heap_size]; exact Nat.le_refl _, fun x _ hx => setCells_block b (fun e => hx n hn0 hn hpos (by rw [e]; exact hσ)) vs o w⟩
/-- The name of a live block dies; a new one takes its block over. -/
theorem move_over {P : Program} {η : Nv} {S : St} {w : World} (hR : Rep P η S w) {n b z e : Nat} {cs : Cells} (hn0 : 272 ≤ n) (hn : n < 32768) (hpos : 0 < (blkAt S n).size) (hσ : η.σ n = some b) (hnx : S.next < 32768) (hz : z ≤ 32768) (he : e = (blkAt S n).elem)
    (hcap : z ≤ η.κ n * sizeT P e) {o : Nat} {vs : List Value} (hfit : o + vs.length ≤ η.κ n * sizeT P e) (hc : ∀ i, i < z → ∃ v, (w.setCells b o vs).cell? ⟨b, i, none⟩ = some v ∧ SR η ((accC i).f cs) v) (ds : List (Nat × List V)) :
    Move P η S w (η.set S.next b (η.κ n)) ⟨(updH S.next).f ⟨z, e, cs⟩ (kill n S).heap, S.next + 1, ds⟩ (w.setCells b o vs) := by
  obtain ⟨b', hb⟩ := hR.live n hn hpos
  obtain rfl : b = b' := by have := hb.σ; rw [hσ] at this; injection this
  have hfree : ∀ a, (w.setCells b o vs).frozen? a = w.frozen? a := fun a => World.frozen?_setCells b vs o w a
  have hsome : ∀ j, j < vs.length → (w.cell? ⟨b, o + j, none⟩).isSome = true := fun j hj => (hb.all (o + j) (by rw [← he]; omega)).1
  have hnone := hR.new S.next (Nat.le_refl _)
  have hle := Nv.le_set hnone b (η.κ n)
  have hnn : n ≠ S.next := by rintro rfl; rw [hnone] at hσ; cases hσ
  have hat : (η.set S.next b (η.κ n)).σ S.next = some b := by simp [Nv.set]
  have hatk : (η.set S.next b (η.κ n)).κ S.next = η.κ n := by simp [Nv.set]
  have hset : ∀ m, m ≠ S.next → (η.set S.next b (η.κ n)).σ m = η.σ m := fun m h => by simp [Nv.set, h]
  have hsetk : ∀ m, m ≠ S.next → (η.set S.next b (η.κ n)).κ m = η.κ m := fun m h => by simp [Nv.set, h]
  have hnew := blkAt_up_same (kill n S) S.next (S.next + 1) ⟨z, e, cs⟩ ds
  have hold : ∀ m, m < 32768 → m ≠ S.next → blkAt ⟨(updH S.next).f ⟨z, e, cs⟩ (kill n S).heap, S.next + 1, ds⟩ m = blkAt (kill n S) m := fun m hm h => blkAt_up_ne (kill n S) _ _ ds hnx hm (Ne.symm h)
  have hkn : blkAt (kill n S) n = blk0 := blkAt_put_same S n blk0
  have hko : ∀ m, m < 32768 → m ≠ n → blkAt (kill n S) m = blkAt S m := fun m hm h => blkAt_put_ne S _ hn hm (Ne.symm h)
  have hdead : ∀ m, m < 32768 → m ≠ S.next → 0 < (blkAt ⟨(updH S.next).f ⟨z, e, cs⟩ (kill n S).heap, S.next + 1, ds⟩ m).size → m ≠ n ∧ blkAt ⟨(updH S.next).f ⟨z, e, cs⟩ (kill n S).heap, S.next + 1, ds⟩ m = blkAt S m := fun m hm h hl => by
    rw [hold m hm h] at hl ⊢
    have : m ≠ n := by rintro rfl; rw [hkn] at hl; exact absurd hl (Nat.lt_irrefl 0)
    exact ⟨this, hko m hm this⟩
  refine ⟨⟨hle, Nat.le_succ _, fun m x hm hl hx => ?_, fun m hm => hset m (Nat.ne_of_lt hm)⟩, ⟨fun m hm hl => ?_, fun m k x h1 h2 h3 h4 h5 h6 => ?_, fun m hm => ?_, fun m x hx => ?_, fun m x hm hx => hR.own m x hm (by rw [← hset m (by have := hR.top; omega)]; exact hx), Nat.le_succ_of_le hR.top, η.st _ _ (fun x hx => setCells_block b (fun e => (hR.foot x hx).2 n hn hpos (by rw [e]; exact hσ)) vs o w) hR.inv, fun x hx => ⟨by rw [setCells_heap_size]; exact (hR.foot x hx).1, fun m hm hl hc => ?_⟩⟩, ?_⟩
  · by_cases h : m = S.next
    · subst h; rw [hat] at hx; cases hx; exact .inr ⟨n, fun _ => hn0, hn, hpos, hσ⟩
    · obtain ⟨h1, h2⟩ := hdead m hm h hl
      rw [h2] at hl; rw [hset m h] at hx
      exact .inr ⟨m, id, hm, hl, hx⟩
  · by_cases h : m = S.next
    · subst h
      rw [hnew]
      refine ⟨b, hat, hz, by rw [hatk]; exact hcap, fun i hi => ?_, fun i hi => ?_⟩
      · obtain ⟨v, hv, hs⟩ := hc i hi
        exact ⟨v, hv, hs.up hle⟩
      · rw [hatk] at hi
        refine ⟨?_, by rw [hfree]; exact (hb.all i (by rw [← he]; exact hi)).2⟩
        by_cases hio : o ≤ i ∧ i < o + vs.length
        · obtain ⟨j, rfl⟩ : ∃ j, i = o + j := ⟨i - o, by omega⟩
          rw [World.cell?_setCells_in b vs o w hsome j (by omega)]; rfl
        · rw [World.cell?_setCells_out b vs o w _ (fun _ _ => show i < o ∨ o + vs.length ≤ i by omega)]; exact (hb.all i (by rw [← he]; exact hi)).1
    · obtain ⟨h1, h2⟩ := hdead m hm h hl
      rw [h2] at hl ⊢
      obtain ⟨x, hx⟩ := hR.live m hm hl
      have hxb : x ≠ b := fun e => h1 (hR.inj m n b hm hn hl hpos (by rw [← e]; exact hx.σ) hσ)
      have hcx : ∀ i, (w.setCells b o vs).cell? ⟨x, i, none⟩ = w.cell? ⟨x, i, none⟩ := fun i => World.cell?_setCells_out b vs o w _ (fun e _ => absurd e hxb)
      refine ⟨x, (hset m h).trans hx.σ, hx.size, by rw [hsetk m h]; exact hx.cap, fun i hi => ?_, fun i hi => by rw [hsetk m h] at hi; rw [hcx, hfree]; exact hx.all i hi⟩
      obtain ⟨v, hv, hs⟩ := hx.cell i hi
      exact ⟨v, by rw [hcx]; exact hv, hs.up hle⟩
  · by_cases hm1 : m = S.next <;> by_cases hk1 : k = S.next
    · rw [hm1, hk1]
    · subst hm1
      obtain ⟨g1, g2⟩ := hdead k h2 hk1 h4
      rw [g2] at h4; rw [hat] at h5; rw [hset k hk1] at h6; cases h5
      exact absurd (hR.inj k n _ h2 hn h4 hpos h6 hσ) g1
    · subst hk1
      obtain ⟨g1, g2⟩ := hdead m h1 hm1 h3
      rw [g2] at h3; rw [hat] at h6; rw [hset m hm1] at h5; cases h6
      exact absurd (hR.inj m n _ h1 hn h3 hpos h5 hσ) g1
    · obtain ⟨g1, g2⟩ := hdead m h1 hm1 h3
      obtain ⟨g3, g4⟩ := hdead k h2 hk1 h4
      rw [g2] at h3; rw [g4] at h4; rw [hset m hm1] at h5; rw [hset k hk1] at h6
      exact hR.inj m k x h1 h2 h3 h4 h5 h6
  · have h1 : S.next + 1 ≤ m := hm
    rw [hset m (by omega)]; exact hR.new m (by omega)
  · by_cases h : m = S.next
    · subst h; rw [hat] at hx; cases hx; rw [setCells_heap_size]; exact hR.low n b hσ
    · rw [hset m h] at hx; rw [setCells_heap_size]; exact hR.low m x hx
  · by_cases h : m = S.next
    · subst h; rw [hat] at hc; cases hc; exact (hR.foot _ hx).2 n hn hpos hσ
    · obtain ⟨h1, h2⟩ := hdead m hm h hl
      rw [h2] at hl; rw [hset m h] at hc
      exact (hR.foot x hx).2 m hm hl hc
  · obtain ⟨e1, e2, e3⟩ := setCells_os b vs o w
    exact ⟨e1, e2, e3, by rw [setCells_heap_size]; exact Nat.le_refl _, fun x _ hx => setCells_block b (fun e => hx n hn0 hn hpos (by rw [e]; exact hσ)) vs o w⟩
/-- A name dies. -/
theorem rep_kill {P : Program} {η : Nv} {S : St} {w : World} (hR : Rep P η S w) {n : Nat} (hn : n < 32768) : Move P η S w η (kill n S) w := by
  have hkn : blkAt (kill n S) n = blk0 := blkAt_put_same S n blk0
  have hko : ∀ m, m < 32768 → m ≠ n → blkAt (kill n S) m = blkAt S m := fun m hm h => blkAt_put_ne S _ hn hm (Ne.symm h)
  have hdead : ∀ m, m < 32768 → 0 < (blkAt (kill n S) m).size → m ≠ n ∧ blkAt (kill n S) m = blkAt S m := fun m hm hl => by
    have : m ≠ n := by rintro rfl; rw [hkn] at hl; exact absurd hl (Nat.lt_irrefl 0)
    exact ⟨this, hko m hm this⟩
  refine ⟨⟨Nv.le.refl η, Nat.le_refl _, fun m x hm hl hx => .inr ⟨m, id, hm, by have h2 := hl; rw [(hdead m hm hl).2] at h2; exact h2, hx⟩, fun _ _ => rfl⟩, ⟨fun m hm hl => ?_, fun m k x h1 h2 h3 h4 h5 h6 => ?_, hR.new, hR.low, hR.own, hR.top, hR.inv, fun x hx => ⟨(hR.foot x hx).1, fun m hm hl => (hR.foot x hx).2 m hm (by rw [(hdead m hm hl).2] at hl; exact hl)⟩⟩, Fr.refl η S w⟩
  · have e := (hdead m hm hl).2
    rw [e] at hl ⊢
    exact hR.live m hm hl
  · have e1 := (hdead m h1 h3).2; have e2 := (hdead k h2 h4).2
    rw [e1] at h3; rw [e2] at h4
    exact hR.inj m k x h1 h2 h3 h4 h5 h6
end Go.Exec

namespace Go.Exec
open Go
theorem kmod_eq (k : IntKind) : kmod k = 2 ^ k.bits := by cases k <;> rfl
theorem wrap_congr (k : IntKind) {m n : Int} (h : m % (kmod k : Int) = n % (kmod k : Int)) : k.wrap m = k.wrap n := by
  rw [kmod_eq] at h
  simp only [Int.natCast_pow] at h
  unfold IntKind.wrap
  simp only [show ((2 : Nat) : Int) = 2 from rfl] at h
  rw [h]
theorem wrap_mod (k : IntKind) (n : Int) : k.wrap n % (kmod k : Int) = n % (kmod k : Int) := by
  cases k <;> simp [IntKind.wrap, IntKind.bits, IntKind.signed, kmod] <;> (try split) <;> omega
theorem wrap_nat (k : IntKind) {a : Nat} (ha : a < kmod k) : k.wrap (a : Int) = if khalf k = 0 ∨ a < khalf k then (a : Int) else (a : Int) - kmod k := by
  cases k <;> simp [IntKind.wrap, IntKind.bits, IntKind.signed, kmod, khalf] at ha ⊢ <;> (try split) <;> omega
theorem wrap_res (k : IntKind) (n : Int) : k.wrap (((n % (kmod k : Int)).toNat : Nat) : Int) = k.wrap n := by
  apply wrap_congr
  have h : 0 < (kmod k : Int) := by cases k <;> simp [kmod]
  have h2 := Int.emod_nonneg n (by omega : (kmod k : Int) ≠ 0)
  rw [Int.toNat_of_nonneg h2, Int.emod_emod_of_dvd _ (Int.dvd_refl _)]
theorem res_lt (k : IntKind) (n : Int) : (n % (kmod k : Int)).toNat < kmod k := by
  have h : 0 < (kmod k : Int) := by cases k <;> simp [kmod]
  have h2 := Int.emod_nonneg n (by omega : (kmod k : Int) ≠ 0)
  have h3 := Int.emod_lt_of_pos n h
  omega
theorem kmod_pos (k : IntKind) : 0 < kmod k := by cases k <;> simp [kmod]
theorem wrap_add (k : IntKind) (a b : Nat) : k.wrap (k.wrap a + k.wrap b) = k.wrap ((Nat.mod (Nat.add a b) (kmod k) : Nat) : Int) := by
  apply wrap_congr
  have h1 := wrap_mod k a
  have h2 := wrap_mod k b
  rw [Int.add_emod, h1, h2, ← Int.add_emod]
  show _ = ((((a + b) % kmod k : Nat) : Int)) % (kmod k : Int)
  rw [Int.natCast_emod, Int.emod_emod_of_dvd _ (Int.dvd_refl _)]
  simp
theorem wrap_sub (k : IntKind) (a b : Nat) (hb : b < kmod k) : k.wrap (k.wrap a - k.wrap b) = k.wrap ((Nat.mod (Nat.sub (Nat.add a (kmod k)) b) (kmod k) : Nat) : Int) := by
  apply wrap_congr
  have h1 := wrap_mod k a
  have h2 := wrap_mod k b
  rw [Int.sub_emod, h1, h2, ← Int.sub_emod]
  show _ = ((((a + kmod k - b) % kmod k : Nat) : Int)) % (kmod k : Int)
  rw [Int.natCast_emod, Int.emod_emod_of_dvd _ (Int.dvd_refl _), Int.natCast_sub (by omega), Int.natCast_add]
  have : ((a : Int) + kmod k - b) = (a - b) + kmod k := by omega
  rw [this, Int.add_emod_right]
theorem wrap_mul (k : IntKind) (a b : Nat) : k.wrap (k.wrap a * k.wrap b) = k.wrap ((Nat.mod (Nat.mul a b) (kmod k) : Nat) : Int) := by
  apply wrap_congr
  have h1 := wrap_mod k a
  have h2 := wrap_mod k b
  rw [Int.mul_emod, h1, h2, ← Int.mul_emod]
  show _ = ((((a * b) % kmod k : Nat) : Int)) % (kmod k : Int)
  rw [Int.natCast_emod, Int.emod_emod_of_dvd _ (Int.dvd_refl _)]
  simp
theorem wrap_neg (k : IntKind) (a : Nat) (ha : a < kmod k) : k.wrap (0 - k.wrap a) = k.wrap ((Nat.mod (Nat.sub (kmod k) a) (kmod k) : Nat) : Int) := by
  have := wrap_sub k 0 a ha
  simp only [show k.wrap ((0 : Nat) : Int) = 0 by cases k <;> rfl] at this
  rw [this]
  simp
theorem mod_lt (k : IntKind) (n : Nat) : Nat.mod n (kmod k) < kmod k := Nat.mod_lt _ (kmod_pos k)
theorem ofInt_wrap (k : IntKind) (a : Nat) : BitVec.ofInt k.bits (k.wrap a) = BitVec.ofNat k.bits a := by
  apply BitVec.eq_of_toNat_eq
  rw [BitVec.toNat_ofInt, BitVec.toNat_ofNat]
  have h := wrap_mod k a
  rw [kmod_eq] at h
  rw [h]
  rw [← Int.natCast_emod, Int.toNat_natCast]
theorem land_lt (k : IntKind) {a b : Nat} (ha : a < kmod k) : Nat.land a b < kmod k := by
  have : a &&& b ≤ a := Nat.and_le_left
  exact Nat.lt_of_le_of_lt this ha
theorem lor_lt (k : IntKind) {a b : Nat} (ha : a < kmod k) (hb : b < kmod k) : Nat.lor a b < kmod k := by
  rw [kmod_eq] at *
  exact Nat.or_lt_two_pow ha hb
theorem xor_lt (k : IntKind) {a b : Nat} (ha : a < kmod k) (hb : b < kmod k) : Nat.xor a b < kmod k := by
  rw [kmod_eq] at *
  exact Nat.xor_lt_two_pow ha hb
theorem bias_lt (k : IntKind) {a b : Nat} (ha : a < kmod k) (hb : b < kmod k) : (k.wrap a < k.wrap b) ↔ bias k a < bias k b := by
  rw [wrap_nat k ha, wrap_nat k hb]
  unfold bias
  cases k <;> simp only [kmod, khalf] at * <;> (try simp only [Nat.not_lt_zero, or_false, if_true, false_or, show ¬ (128 = 0) by decide, show ¬ (32768 = 0) by decide, show ¬ (2147483648 = 0) by decide, show ¬ (9223372036854775808 = 0) by decide]) <;>
    (show _ ↔ (a + _) % _ < (b + _) % _) <;> (repeat' split) <;> omega
theorem wrap_inj (k : IntKind) {a b : Nat} (ha : a < kmod k) (hb : b < kmod k) : k.wrap (a : Int) = k.wrap b ↔ a = b := by
  constructor
  · intro h
    have h1 := wrap_mod k a
    have h2 := wrap_mod k b
    rw [h] at h1
    rw [h1, Int.emod_eq_of_lt (by omega) (by omega), Int.emod_eq_of_lt (by omega) (by omega)] at h2
    omega
  · rintro rfl; rfl
theorem wrap_small (k : IntKind) {a : Nat} (h : a < kmod k / 2) : k.wrap (a : Int) = a := by
  rw [wrap_nat k (by omega)]
  rw [if_pos (by cases k <;> first | exact Or.inl rfl | exact Or.inr (by simpa [kmod, khalf] using h))]
theorem posBoth_iff (k : IntKind) (a b : Nat) : posBoth k a b = true ↔ a < kmod k / 2 ∧ b < kmod k / 2 := by
  unfold posBoth
  show (Nat.blt a (kmod k / 2) && Nat.blt b (kmod k / 2)) = true ↔ _
  rw [Bool.and_eq_true]
  exact ⟨fun ⟨h1, h2⟩ => ⟨Nat.le_of_ble_eq_true h1, Nat.le_of_ble_eq_true h2⟩, fun ⟨h1, h2⟩ => ⟨Nat.ble_eq_true_of_le h1, Nat.ble_eq_true_of_le h2⟩⟩
end Go.Exec

namespace Go.Exec
open Go
def OR (η : Nv) (N : Nat) (A : Env) (a : Act) (x : Operand) : Prop := VR η ((opd N x).f A) (a.eval x)
structure AR (η : Nv) (N : Nat) (A : Env) (a : Act) : Prop where
  size : a.tmps.size = N
  le : N ≤ 512
  tmp : ∀ t, t < N → VR η ((acc (α := V) 3 t).f A) (a.tmps.getD t undef)
theorem VR.undef (η : Nv) : VR η undefV undef := .tup [] rfl .nil
theorem SR.of_liftS {η : Nv} {v : Value} {s : Sc} (h : liftS v = some s) : SR η s v := by
  unfold liftS at h
  split at h
  · cases h; rename_i b; exact .bool b rfl rfl
  · rename_i k n
    split at h
    · rename_i hw
      cases h
      have := SR.int (η := η) (s := ⟨kcode k, (n % (kmod k : Int)).toNat, 0, 0, 0, [], []⟩) k rfl (res_lt k n)
      rw [wrap_res, hw] at this
      exact this
    · cases h
  · cases h; exact .str _ rfl rfl rfl
  · cases h; exact .nilp rfl
  · cases h; exact .nils rfl
  · cases h; exact .nilf rfl
  · cases h; exact .nili rfl
  · cases h
theorem SR.liftL {η : Nv} : ∀ (vs : List Value) (i : Nat) (c d : Cells), liftL vs i c = some d → i + vs.length ≤ 32768 →
    (∀ j x, vs[j]? = some x → SR η ((accC (i + j)).f d) x) ∧ ∀ j, j < i → (accC j).f d = (accC j).f c
  | [], i, c, d, h, _ => by
    cases h
    exact ⟨fun j x hx => by simp at hx, fun _ _ => rfl⟩
  | v :: vs, i, c, d, h, hl => by
    unfold Exec.liftL at h
    split at h
    · rename_i s hs
      have hl' : i + 1 + vs.length ≤ 32768 := by simp at hl; omega
      obtain ⟨h1, h2⟩ := SR.liftL vs (i + 1) _ d h hl'
      refine ⟨fun j x hx => ?_, fun j hj => ?_⟩
      · cases j with
        | zero =>
          simp at hx; subst hx
          rw [Nat.add_zero, h2 i (by omega), accC_updC_same]
          exact SR.of_liftS hs
        | succ j =>
          have := h1 j x (by simpa using hx)
          rwa [show i + (j + 1) = i + 1 + j by omega]
      · rw [h2 j (by omega), accC_updC_ne _ _ (by simp at hl; omega) (by simp at hl; omega) (by omega)]
    · cases h
theorem VR.of_lift {η : Nv} {v : Value} {x : V} (h : lift v = some x) : VR η x v := by
  unfold lift at h
  split at h
  · rename_i cs
    split at h
    · rename_i hs
      split at h
      · rename_i c hc
        cases h
        refine .agg cs rfl rfl hs fun i y hy => ?_
        have := (SR.liftL (η := η) cs.toList 0 cells0 c hc (by simpa using hs)).1 i y (by simpa using hy)
        rwa [Nat.zero_add] at this
      · cases h
    · cases h
  · rename_i vs
    split at h
    · rename_i hv
      cases h
      have : vs = #[] := Array.ext' (by simpa using hv)
      subst this
      exact VR.undef η
    · cases h
  · split at h
    · rename_i s hs
      cases h
      exact .sc (SR.of_liftS hs)
    · cases h
theorem AR.opd {η : Nv} {N : Nat} {A : Env} {a : Act} (h : AR η N A a) (x : Operand) : OR η N A a x := by
  unfold OR
  cases x with
  | tmp t =>
    unfold Exec.opd
    by_cases ht : t < N
    · have : Nat.blt t N = true := Nat.ble_eq_true_of_le ht
      simp only [this]
      exact h.tmp t ht
    · have : Nat.blt t N = false := by rw [Bool.eq_false_iff]; intro hh; exact ht (Nat.le_of_ble_eq_true hh)
      simp only [this]
      have hs : a.tmps.size ≤ t := by rw [h.size]; exact Nat.le_of_not_lt ht
      have : a.eval (.tmp t) = undef := by simp only [Act.eval]; rw [Array.getD_eq_getD_getElem?, Array.getElem?_eq_none hs]; rfl
      rw [this]; exact VR.undef η
  | const v =>
    cases hl : lift v with
    | none =>
      have : (Exec.opd N (.const v)).f A = badV := by simp only [Exec.opd, hl]
      rw [this]; exact .any rfl
    | some x =>
      have : (Exec.opd N (.const v)).f A = x := by simp only [Exec.opd, hl]
      rw [this]; exact VR.of_lift hl
  | global g =>
    cases hb : Nat.blt g 256 with
    | false =>
      have : (Exec.opd N (.global g)).f A = badV := by simp only [Exec.opd, hb]
      rw [this]; exact .any rfl
    | true =>
      have : (Exec.opd N (.global g)).f A = mkP g 0 := by simp only [Exec.opd, hb]
      rw [this]
      exact .sc (.ptr (s := ⟨4, g, 0, 0, 0, [], []⟩) g rfl (.inr ⟨Nat.le_of_ble_eq_true hb, rfl⟩))
  | func f => exact .sc (.fn (s := ⟨7, f, 0, 0, 0, [], []⟩) [] [] rfl .nil .nil)
theorem AR.up {η ζ : Nv} (hl : η.le ζ) {N : Nat} {A : Env} {a : Act} (h : AR η N A a) : AR ζ N A a := ⟨h.size, h.le, fun t ht => (h.tmp t ht).up hl⟩
theorem OR.up {η ζ : Nv} (hl : η.le ζ) {N : Nat} {A : Env} {a : Act} {x : Operand} (h : OR η N A a x) : OR ζ N A a x := VR.up hl h
theorem VRL.opds {η : Nv} {N : Nat} {A : Env} {a : Act} : ∀ (xs : List Operand), (∀ x ∈ xs, OR η N A a x) → VRL η ((opds N xs).f A) (xs.map a.eval)
  | [], _ => .nil
  | x :: r, h => .cons (h x (by simp)) (VRL.opds r fun y hy => h y (by simp [hy]))

theorem chk_ok {b : Bool} {k : Ans} {v : V} {S : St} (h : chk b k = .ok v S) : b = true ∧ k = .ok v S := by
  cases b
  · exact absurd h (by simp [chk])
  · exact ⟨rfl, h⟩
theorem iff_ok {b : Bool} {x y : Ans} {v : V} {S : St} (h : iff b x y = .ok v S) : (b = true ∧ x = .ok v S) ∨ (b = false ∧ y = .ok v S) := by
  cases b
  · exact .inr ⟨rfl, h⟩
  · exact .inl ⟨rfl, h⟩
theorem and_ok {a b : Bool} (h : Bool.and a b = true) : a = true ∧ b = true := by cases a <;> cases b <;> first | exact ⟨rfl, rfl⟩ | cases h
theorem or_ok {a b : Bool} (h : Bool.or a b = true) : a = true ∨ b = true := by cases a <;> cases b <;> first | exact .inl rfl | exact .inr rfl | cases h
theorem not_ok {a : Bool} (h : Bool.not a = true) : a = false := by cases a <;> first | rfl | cases h
theorem beq_ok {a b : Nat} (h : Nat.beq a b = true) : a = b := Nat.eq_of_beq_eq_true h
theorem beq_no {a b : Nat} (h : Nat.beq a b = false) : a ≠ b := fun e => by subst e; simp at h
theorem ble_ok {a b : Nat} (h : Nat.ble a b = true) : a ≤ b := Nat.le_of_ble_eq_true h
theorem ble_no {a b : Nat} (h : Nat.ble a b = false) : b < a := by
  rcases Nat.lt_or_ge b a with h' | h'
  · exact h'
  · rw [Nat.ble_eq_true_of_le h'] at h; cases h
theorem blt_ok {a b : Nat} (h : Nat.blt a b = true) : a < b := Nat.le_of_ble_eq_true h
theorem wrN_ok {n : Nat} (h : wrN n = true) : 272 ≤ n ∧ n < 32768 := by
  obtain ⟨h1, h2⟩ := and_ok h
  exact ⟨ble_ok h1, blt_ok h2⟩
theorem blt_no {a b : Nat} (h : Nat.blt a b = false) : b ≤ a := by have := ble_no h; omega

/-- An operation that only reckons. -/
def PureOk (P : Program) (N : Nat) (ρ : Nat → Int) (o : Op) (c : OpC) : Prop :=
  ∀ call A S v S', c.f call A S = .ok v S' → S' = S ∧ (∀ call2 S2, c.f call2 A S2 = .ok v S2) ∧
    ∀ η a w (ob : Oper), η.ρ = ρ → ob.op = o → (∀ x ∈ o.operands.toList, OR η N A a x) → ∃ y, (execOp a.eval ob).run P w = .ok (.value y) w ∧ VR η v y
theorem pure_bad {P : Program} {N : Nat} {ρ : Nat → Int} {o : Op} : PureOk P N ρ o bad := fun _ _ _ _ _ h => by cases h
theorem okI_eq (k : IntKind) (n : Nat) (S : St) : okI k n S = .ok (mkI (kcode k) n) S := rfl
theorem VR.mkI {η : Nv} (k : IntKind) {n : Nat} (h : n < kmod k) : VR η (mkI (kcode k) n) (.int k (k.wrap n)) := .sc (.int (s := ⟨kcode k, n, 0, 0, 0, [], []⟩) k rfl h)
theorem VR.bool {η : Nv} (b : Bool) (S : St) : ∃ v, okB b S = .ok v S ∧ VR η v (.bool b) := by
  cases b
  · exact ⟨vF, rfl, .sc (.bool (s := ⟨1, 0, 0, 0, 0, [], []⟩) false rfl rfl)⟩
  · exact ⟨vT, rfl, .sc (.bool (s := ⟨1, 1, 0, 0, 0, [], []⟩) true rfl rfl)⟩
end Go.Exec
