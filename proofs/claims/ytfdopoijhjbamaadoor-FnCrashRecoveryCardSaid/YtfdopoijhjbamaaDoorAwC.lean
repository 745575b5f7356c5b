/- The rules of single operations: those that do not look at memory. -/
import Derived.Test.YtfdopoijhjbamaaDoorAwB
import Derived.Laws.Slices
import Derived.WalkSpells
import Derived.Laws.Cover1
namespace Go.Aw
open Go.RowKit
set_option linter.unusedVariables false
set_option linter.unusedSimpArgs false

theorem os_val {X : Cx} {o : Oper} {E : Env} {H : Heap} {v : AT} (h : ∀ ι a w, Inv X ι H w → ROp X ι E a o.op → ∃ x, (execOp a.eval o).run X.P w = .ok (.value x) w ∧ RT ι v x) : OS X o E H (some v) H := by
  intro ι a w hi hn hr K Q hK
  obtain ⟨x, h1, h2⟩ := h ι a w hi hr
  unfold Oper.wp
  rw [h1]
  exact hK ι x w (Step.refl hi) (fun v' e => by cases e; exact h2)

abbrev I64 (n : Int) : AT := .v (.c (.s (.int .i64 n)))
abbrev Vi (k : IntKind) (n : Int) : AT := .v (.c (.s (.int k n)))
abbrev Vb (b : Bool) : AT := .v (.c (.s (.bool b)))
abbrev Vs (s : ByteArray) : AT := .v (.c (.s (.string s)))

section
variable {X : Cx} {o : Oper} {E : Env}

theorem r_move {x : Operand} {v : AT} (ho : o.op = .move x) (hv : opv X E x = some v) (H : Heap) : OS X o E H (some v) H :=
  os_val fun ι a w hi hr => ⟨a.eval x, by simp [execOp, ho], hr x (by simp [ho, Op.operands]) v hv⟩

theorem r_assign {x : Operand} {v : AT} (ho : o.op = .assign x) (hv : opv X E x = some v) (H : Heap) : OS X o E H (some v) H :=
  os_val fun ι a w hi hr => ⟨a.eval x, by simp [execOp, ho], hr x (by simp [ho, Op.operands]) v hv⟩

theorem r_pick {c x y : Operand} {b : Bool} {v : AT} (ho : o.op = .pick c x y) (hc : opv X E c = some (Vb b)) (hx : b = true → opv X E x = some v) (hy : b = false → opv X E y = some v) (H : Heap) : OS X o E H (some v) H :=
  os_val fun ι a w hi hr => by
    obtain ⟨h1, _⟩ : a.eval c = .bool b ∧ _ := hr c (by simp [ho, Op.operands]) _ hc
    cases b with
    | true => exact ⟨a.eval x, by simp [execOp, ho, h1, asBool], hr x (by simp [ho, Op.operands]) v (hx rfl)⟩
    | false => exact ⟨a.eval y, by simp [execOp, ho, h1, asBool], hr y (by simp [ho, Op.operands]) v (hy rfl)⟩

/-- What an operation between two integers of one kind comes to. -/
def ibin (op : BinOp) (k : IntKind) (a b : Int) : Option Value := match op with
  | .add => some (.int k (k.wrap (a + b)))
  | .sub => some (.int k (k.wrap (a - b)))
  | .mul => some (.int k (k.wrap (a * b)))
  | .eql => some (.bool (a == b))
  | .neq => some (.bool (a != b))
  | .lss => some (.bool (decide (a < b)))
  | .leq => some (.bool (decide (a ≤ b)))
  | .gtr => some (.bool (decide (a > b)))
  | .geq => some (.bool (decide (a ≥ b)))
  | _ => none

theorem ibin_run {op : BinOp} {k : IntKind} {a b : Int} {v : Value} (h : ibin op k a b = some v) (P : Program) (w : World) (x y : Operand) (t : TypeId) :
    (do eqGuard op t x y (.int k a) (.int k b); binOp op t (.int k a) (.int k b) : Sem Value).run P w = .ok v w ∧ v.oneCell' = true := by
  cases op <;> simp [ibin] at h <;> subst h <;> refine ⟨?_, rfl⟩ <;> simp [eqGuard, binOp, Op.intArith, Op.intCmp]

theorem r_bin {op : BinOp} {t u : TypeId} {x y : Operand} {k : IntKind} {a b : Int} {v : Value} (ho : o.op = .binOp op t x y u) (hx : opv X E x = some (Vi k a)) (hy : opv X E y = some (Vi k b)) (hv : ibin op k a b = some v) (H : Heap) :
    OS X o E H (some (.v (.c (.s v)))) H :=
  os_val fun ι ac w hi hr => by
    obtain ⟨h1, _⟩ : ac.eval x = .int k a ∧ _ := hr x (by simp [ho, Op.operands]) _ hx
    obtain ⟨h2, _⟩ : ac.eval y = .int k b ∧ _ := hr y (by simp [ho, Op.operands]) _ hy
    obtain ⟨h3, h4⟩ := ibin_run hv X.P w x y t
    refine ⟨v, ?_, rfl, h4⟩
    simp only [execOp, ho, h1, h2]
    rw [Sem.run_bind, h3]
    rfl

theorem wrap64_id {n : Int} (h1 : -9223372036854775808 ≤ n) (h2 : n ≤ 9223372036854775807) : IntKind.i64.wrap n = n := by
  simp [IntKind.wrap, IntKind.bits, IntKind.signed]
  split <;> omega

/-- Sums, differences and products that fit. -/
theorem r_addn {t u : TypeId} {x y : Operand} {a b : Int} (ho : o.op = .binOp .add t x y u) (hx : opv X E x = some (I64 a)) (hy : opv X E y = some (I64 b)) (h : -9223372036854775808 ≤ a + b ∧ a + b ≤ 9223372036854775807) (H : Heap) :
    OS X o E H (some (I64 (a + b))) H := r_bin ho hx hy (by simp only [ibin, wrap64_id h.1 h.2]) H
theorem r_subn {t u : TypeId} {x y : Operand} {a b : Int} (ho : o.op = .binOp .sub t x y u) (hx : opv X E x = some (I64 a)) (hy : opv X E y = some (I64 b)) (h : -9223372036854775808 ≤ a - b ∧ a - b ≤ 9223372036854775807) (H : Heap) :
    OS X o E H (some (I64 (a - b))) H := r_bin ho hx hy (by simp only [ibin, wrap64_id h.1 h.2]) H
theorem r_muln {t u : TypeId} {x y : Operand} {a b : Int} (ho : o.op = .binOp .mul t x y u) (hx : opv X E x = some (I64 a)) (hy : opv X E y = some (I64 b)) (h : -9223372036854775808 ≤ a * b ∧ a * b ≤ 9223372036854775807) (H : Heap) :
    OS X o E H (some (I64 (a * b))) H := r_bin ho hx hy (by simp only [ibin, wrap64_id h.1 h.2]) H

theorem r_quo {t u : TypeId} {x y : Operand} {k : IntKind} {a b : Int} (ho : o.op = .binOp .quo t x y u) (hx : opv X E x = some (Vi k a)) (hy : opv X E y = some (Vi k b)) (h : b ≠ 0) (H : Heap) :
    OS X o E H (some (Vi k (k.wrap (a.tdiv b)))) H :=
  os_val fun ι ac w hi hr => by
    obtain ⟨h1, _⟩ : ac.eval x = .int k a ∧ _ := hr x (by simp [ho, Op.operands]) _ hx
    obtain ⟨h2, _⟩ : ac.eval y = .int k b ∧ _ := hr y (by simp [ho, Op.operands]) _ hy
    exact ⟨_, by simp [execOp, ho, h1, h2, eqGuard, binOp, Op.intDiv, h], rfl, rfl⟩
theorem r_rem {t u : TypeId} {x y : Operand} {k : IntKind} {a b : Int} (ho : o.op = .binOp .rem t x y u) (hx : opv X E x = some (Vi k a)) (hy : opv X E y = some (Vi k b)) (h : b ≠ 0) (H : Heap) :
    OS X o E H (some (Vi k (a.tmod b))) H :=
  os_val fun ι ac w hi hr => by
    obtain ⟨h1, _⟩ : ac.eval x = .int k a ∧ _ := hr x (by simp [ho, Op.operands]) _ hx
    obtain ⟨h2, _⟩ : ac.eval y = .int k b ∧ _ := hr y (by simp [ho, Op.operands]) _ hy
    exact ⟨_, by simp [execOp, ho, h1, h2, eqGuard, binOp, Op.intDiv, h], rfl, rfl⟩

/-- What an operation between two strings comes to, but for sums. -/
def sbin (op : BinOp) (a b : ByteArray) : Option Value := match op with
  | .eql => some (.bool (a.toList == b.toList))
  | .neq => some (.bool (!(a.toList == b.toList)))
  | .lss => some (.bool (Op.bytesLess a.toList b.toList))
  | .leq => some (.bool (Op.bytesLess a.toList b.toList || a.toList == b.toList))
  | .gtr => some (.bool (!(Op.bytesLess a.toList b.toList || a.toList == b.toList)))
  | .geq => some (.bool (!Op.bytesLess a.toList b.toList))
  | _ => none

theorem r_sbin {op : BinOp} {t u : TypeId} {x y : Operand} {a b : ByteArray} {v : Value} (ho : o.op = .binOp op t x y u) (hx : opv X E x = some (Vs a)) (hy : opv X E y = some (Vs b)) (hv : sbin op a b = some v) (H : Heap) :
    OS X o E H (some (.v (.c (.s v)))) H :=
  os_val fun ι ac w hi hr => by
    obtain ⟨h1, _⟩ : ac.eval x = .string a ∧ _ := hr x (by simp [ho, Op.operands]) _ hx
    obtain ⟨h2, _⟩ : ac.eval y = .string b ∧ _ := hr y (by simp [ho, Op.operands]) _ hy
    refine ⟨v, ?_, rfl, ?_⟩
    · cases op <;> simp [sbin] at hv <;> subst hv <;> simp [execOp, ho, h1, h2, eqGuard, binOp, Op.stringOp]
    · cases op <;> simp [sbin] at hv <;> subst hv <;> rfl

theorem r_cat {t u : TypeId} {x y : Operand} {a b : ByteArray} (ho : o.op = .binOp .add t x y u) (hx : opv X E x = some (Vs a)) (hy : opv X E y = some (Vs b)) (h : a.size + b.size ≤ 9223372036854775807) (H : Heap) :
    OS X o E H (some (Vs (a ++ b))) H :=
  os_val fun ι ac w hi hr => by
    obtain ⟨h1, _⟩ : ac.eval x = .string a ∧ _ := hr x (by simp [ho, Op.operands]) _ hx
    obtain ⟨h2, _⟩ : ac.eval y = .string b ∧ _ := hr y (by simp [ho, Op.operands]) _ hy
    refine ⟨.string (a ++ b), ?_, rfl, rfl⟩
    have hm : ((a.size : Int) + (b.size : Int)) ≤ 9223372036854775807 := by omega
    simp [execOp, ho, h1, h2, eqGuard, binOp, Op.stringOp, hm]

theorem r_not {t : TypeId} {x : Operand} {b : Bool} (ho : o.op = .unOp .not t x) (hx : opv X E x = some (Vb b)) (H : Heap) : OS X o E H (some (Vb (!b))) H :=
  os_val fun ι ac w hi hr => by
    obtain ⟨h1, _⟩ : ac.eval x = .bool b ∧ _ := hr x (by simp [ho, Op.operands]) _ hx
    exact ⟨_, by simp [execOp, ho, h1, Op.unary], rfl, rfl⟩
theorem r_neg {t : TypeId} {x : Operand} {k : IntKind} {n : Int} (ho : o.op = .unOp .neg t x) (hx : opv X E x = some (Vi k n)) (H : Heap) : OS X o E H (some (Vi k (k.wrap (0 - n)))) H :=
  os_val fun ι ac w hi hr => by
    obtain ⟨h1, _⟩ : ac.eval x = .int k n ∧ _ := hr x (by simp [ho, Op.operands]) _ hx
    exact ⟨_, by simp [execOp, ho, h1, Op.unary, Op.intArith], rfl, rfl⟩

/-- Between integers. -/
theorem r_conv {s d : TypeId} {x : Operand} {k k' : IntKind} {n : Int} {ds : TypeDesc} (ho : o.op = .convert s d x) (hs : X.P.underlying s = some ds) (hd : X.P.underlying d = some (.int k')) (hx : opv X E x = some (Vi k n)) (H : Heap) :
    OS X o E H (some (Vi k' (k'.wrap n))) H :=
  os_val fun ι ac w hi hr => by
    obtain ⟨h1, _⟩ : ac.eval x = .int k n ∧ _ := hr x (by simp [ho, Op.operands]) _ hx
    exact ⟨_, by simp [execOp, ho, h1, convert, run_underlying hs, run_underlying hd, Conv.intToInt], rfl, rfl⟩

theorem r_lens {t : TypeId} {x : Operand} {s : ByteArray} (ho : o.op = .call { callee := .builtin .len, args := #[x], argTypes := #[t] }) (ht : X.P.underlying t = some .string) (hx : opv X E x = some (Vs s)) (H : Heap) :
    OS X o E H (some (I64 s.size)) H :=
  os_val fun ι ac w hi hr => by
    obtain ⟨h1, _⟩ : ac.eval x = .string s ∧ _ := hr x (by simp [ho, Op.operands, Call.operands]) _ hx
    exact ⟨_, by simp [execOp, ho, h1, resolve, invoke, builtin, Builtin.len_, run_underlying ht, goInt], rfl, rfl⟩

/-- A slice's length. -/
def slen : AT → Option Nat
  | .v (.c .ns) => some 0
  | .v (.c (.sl _ _ n _ _)) => some n
  | .v (.c .em) => some 0
  | _ => none
theorem r_len {t e : TypeId} {x : Operand} {v : AT} {n : Nat} (ho : o.op = .call { callee := .builtin .len, args := #[x], argTypes := #[t] }) (ht : X.P.underlying t = some (.slice e)) (hx : opv X E x = some v) (hn : slen v = some n) (H : Heap) :
    OS X o E H (some (I64 n)) H :=
  os_val fun ι ac w hi hr => by
    have h := hr x (by simp [ho, Op.operands, Call.operands]) _ hx
    unfold slen at hn
    split at hn
    · cases hn
      have h1 : ac.eval x = .slice none 0 0 := h
      exact ⟨_, by simp [execOp, ho, h1, resolve, invoke, builtin, Builtin.len_, run_underlying ht, goInt], rfl, rfl⟩
    · cases hn
      obtain ⟨L, c, _, h1, _⟩ := h
      exact ⟨_, by simp [execOp, ho, h1, resolve, invoke, builtin, Builtin.len_, run_underlying ht, goInt], rfl, rfl⟩
    · cases hn
      obtain ⟨L, c, h1⟩ := h
      exact ⟨_, by simp [execOp, ho, h1, resolve, invoke, builtin, Builtin.len_, run_underlying ht, goInt], rfl, rfl⟩
    · cases hn

theorem r_extract {x : Operand} {j : Nat} {vs : List AV} {v : AV} (ho : o.op = .extract x j) (hx : opv X E x = some (.tu vs)) (hv : vs[j]? = some v) (H : Heap) : OS X o E H (some (.v v)) H :=
  os_val fun ι ac w hi hr => by
    obtain ⟨ys, h1, h2⟩ := hr x (by simp [ho, Op.operands]) _ hx
    obtain ⟨y, h3, h4⟩ := h2.get j v hv
    exact ⟨y, by simp [execOp, ho, h1, Instr.extract, h3], h4⟩

theorem r_index {t u : TypeId} {x y : Operand} {s : ByteArray} {k : IntKind} {i : Int} (ho : o.op = .index t x y) (ht : X.P.underlying t = some .string) (hx : opv X E x = some (Vs s)) (hy : opv X E y = some (Vi k i)) (h0 : 0 ≤ i) (h1 : i < s.size) (H : Heap) :
    OS X o E H (some (Vi .u8 ((s.data.toList.getD i.toNat 0).toNat : Int))) H :=
  os_val fun ι ac w hi hr => by
    obtain ⟨h2, _⟩ : ac.eval x = .string s ∧ _ := hr x (by simp [ho, Op.operands]) _ hx
    obtain ⟨h3, _⟩ : ac.eval y = .int k i ∧ _ := hr y (by simp [ho, Op.operands]) _ hy
    have hlt : i.toNat < s.size := by omega
    refine ⟨_, ?_, rfl, rfl⟩
    have e : s[i.toNat]? = some (s.data.toList.getD i.toNat 0) := by
      rw [getElem?_pos s i.toNat hlt]
      have hl : i.toNat < s.data.toList.length := by simpa using hlt
      rw [List.getD, List.getElem?_eq_getElem hl]
      rfl
    simp [execOp, ho, h2, h3, Instr.index, asIntOf, run_underlying ht, h0, e]

theorem r_sub {t : TypeId} {x : Operand} {lo hi : Option Operand} {s : ByteArray} {l h : Nat} (ho : o.op = .slice t x lo hi none) (ht : X.P.underlying t = some .string) (hx : opv X E x = some (Vs s))
    (hl : match lo with | some y => opv X E y = some (I64 (l : Int)) | none => l = 0) (hh : match hi with | some y => opv X E y = some (I64 (h : Int)) | none => h = s.size) (h1 : l ≤ h) (h2 : h ≤ s.size) (H : Heap) :
    OS X o E H (some (Vs (s.extract l h))) H :=
  os_val fun ι ac w hi' hr => by
    obtain ⟨e1, _⟩ : ac.eval x = .string s ∧ _ := hr x (by cases lo <;> cases hi <;> simp [ho, Op.operands]) _ hx
    refine ⟨.string (s.extract l h), ?_, rfl, rfl⟩
    have i1 : (l : Int) ≤ (h : Int) := by omega
    have i2 : (h : Int) ≤ (s.size : Int) := by omega
    cases lo with
    | none =>
      simp only at hl; subst hl
      cases hi with
      | none => simp only at hh; subst hh; simp [execOp, ho, e1, Instr.sliceAt, Instr.slice, run_underlying ht, Instr.sliceBounds]
      | some y =>
        obtain ⟨e2, _⟩ : ac.eval y = .int .i64 h ∧ _ := hr y (by simp [ho, Op.operands]) _ hh
        simp [execOp, ho, e1, e2, Instr.sliceAt, Instr.slice, run_underlying ht, Instr.sliceBounds, Instr.sliceBound, asIntOf, h2]
    | some z =>
      obtain ⟨e3, _⟩ : ac.eval z = .int .i64 l ∧ _ := hr z (by cases hi <;> simp [ho, Op.operands]) _ hl
      cases hi with
      | none => simp only at hh; subst hh; simp [execOp, ho, e1, e3, Instr.sliceAt, Instr.slice, run_underlying ht, Instr.sliceBounds, Instr.sliceBound, asIntOf, h1]
      | some y =>
        obtain ⟨e2, _⟩ : ac.eval y = .int .i64 h ∧ _ := hr y (by simp [ho, Op.operands]) _ hh
        simp [execOp, ho, e1, e2, e3, Instr.sliceAt, Instr.slice, run_underlying ht, Instr.sliceBounds, Instr.sliceBound, asIntOf, h1, h2]
end
end Go.Aw
