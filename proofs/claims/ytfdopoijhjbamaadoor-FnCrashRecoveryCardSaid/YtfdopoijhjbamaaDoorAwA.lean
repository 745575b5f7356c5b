/- A small logic of abstract values over the kit's weakest preconditions: values, heaps, injections, contracts, and the rules of control. -/
import Derived.Below
import Derived.Laws.OwnMore
import Derived.Laws.MakeOwn
import Derived.Deep.MidRow
import Derived.Deep.LoopGhost
import Derived.Orders
namespace Go.Aw
open Go.RowKit
set_option linter.unusedVariables false
set_option linter.unusedSimpArgs false

/-- A block's name: one of the proof's own numbering, or a package variable. -/
inductive Bid where
  | l (n : Nat)
  | g (n : Nat)
  deriving DecidableEq

/-- What one cell holds. -/
inductive AC where
  | s (v : Value)
  | ns
  | sl (b : Bid) (off len lo : Nat) (ex : Bool)
  | em
  | np
  | pt (b : Bid) (off : Nat)
  | fn (f : FuncId) (ps : List (Bid × Nat))
  | er

/-- A value: of one cell, or a struct's cells. -/
inductive AV where
  | c (x : AC)
  | ag (cs : List AC)

/-- What a temporary holds: a value or several results. -/
inductive AT where
  | v (x : AV)
  | tu (xs : List AV)

structure Blk where
  cells : List AC
  own : Bool
  esz : Nat

abbrev Heap := List (Option Blk)
structure Loc where
  blk : Nat
  off : Nat
  size : Nat
  esz : Nat
abbrev Inj := Bid → Option Loc

/-- Two lists, element by element. -/
inductive A2 {α β : Type} (R : α → β → Prop) : List α → List β → Prop
  | nil : A2 R [] []
  | cons {x : α} {y : β} {xs : List α} {ys : List β} : R x y → A2 R xs ys → A2 R (x :: xs) (y :: ys)

theorem A2.length {α β : Type} {R : α → β → Prop} {xs : List α} {ys : List β} (h : A2 R xs ys) : xs.length = ys.length := by
  induction h with
  | nil => rfl
  | cons _ _ ih => simp [ih]

theorem A2.mono {α β : Type} {R R' : α → β → Prop} (hr : ∀ x y, R x y → R' x y) {xs : List α} {ys : List β} (h : A2 R xs ys) : A2 R' xs ys := by
  induction h with
  | nil => exact .nil
  | cons h _ ih => exact .cons (hr _ _ h) ih

theorem A2.get {α β : Type} {R : α → β → Prop} {xs : List α} {ys : List β} (h : A2 R xs ys) : ∀ (i : Nat) (x : α), xs[i]? = some x → ∃ y, ys[i]? = some y ∧ R x y := by
  induction h with
  | nil => intro i x hx; simp at hx
  | cons h _ ih =>
    intro i x hx
    cases i with
    | zero => simp at hx; subst hx; exact ⟨_, rfl, h⟩
    | succ i => simpa using ih i x (by simpa using hx)

theorem A2.of_get {α β : Type} {R : α → β → Prop} : ∀ (xs : List α) (ys : List β), xs.length = ys.length → (∀ (i : Nat) (x : α) (y : β), xs[i]? = some x → ys[i]? = some y → R x y) → A2 R xs ys
  | [], [], _, _ => .nil
  | x :: xs, y :: ys, hl, h => .cons (h 0 x y rfl rfl) (A2.of_get xs ys (by simpa using hl) fun i a b ha hb => h (i + 1) a b (by simpa using ha) (by simpa using hb))

theorem A2.append {α β : Type} {R : α → β → Prop} {xs xs' : List α} {ys ys' : List β} (h : A2 R xs ys) (h' : A2 R xs' ys') : A2 R (xs ++ xs') (ys ++ ys') := by
  induction h with
  | nil => exact h'
  | cons h _ ih => exact .cons h ih

def ptv (L : Loc) (off : Nat) : Value := .pointer (some ⟨L.blk, L.off + off, none⟩)

def RC (ι : Inj) : AC → Value → Prop
  | .s v, x => x = v ∧ v.oneCell' = true
  | .ns, x => x = .slice none 0 0
  | .sl b off len lo ex, x => ∃ L c, ι b = some L ∧ x = .slice (some ⟨L.blk, L.off + off, none⟩) len c ∧ len ≤ c ∧ lo ≤ c ∧ (ex = true → c = lo) ∧ c ≤ maxLen ∧ L.off + off + c * L.esz ≤ L.size
  | .em, x => ∃ a c, x = .slice (some a) 0 c
  | .np, x => x = .pointer none
  | .pt b off, x => ∃ L, ι b = some L ∧ x = ptv L off
  | .fn f ps, x => ∃ vs : List Value, x = .func (.func f) #[] vs.toArray ∧ A2 (fun p v => ∃ L, ι p.1 = some L ∧ v = ptv L p.2) ps vs
  | .er, x => ∃ t v, x = .iface t v

def RV (ι : Inj) : AV → Value → Prop
  | .c x, v => RC ι x v
  | .ag cs, v => ∃ vs : List Value, v = .agg vs.toArray ∧ A2 (RC ι) cs vs

def RT (ι : Inj) : AT → Value → Prop
  | .v x, v => RV ι x v
  | .tu xs, v => ∃ vs : List Value, v = .tuple vs.toArray ∧ A2 (RV ι) xs vs

/-- The blocks that a value names. -/
def AC.ids : AC → List Bid
  | .sl b _ _ _ _ => [b]
  | .pt b _ => [b]
  | .fn _ ps => ps.map (·.1)
  | _ => []
def AV.ids : AV → List Bid
  | .c x => x.ids
  | .ag cs => cs.flatMap AC.ids
def AT.ids : AT → List Bid
  | .v x => x.ids
  | .tu xs => xs.flatMap AV.ids

theorem A2.mono_mem {α β : Type} {R R' : α → β → Prop} {xs : List α} {ys : List β} (h : A2 R xs ys) (hr : ∀ x ∈ xs, ∀ y, R x y → R' x y) : A2 R' xs ys := by
  induction h with
  | nil => exact .nil
  | cons h _ ih => exact .cons (hr _ (by simp) _ h) (ih fun x hx => hr x (by simp [hx]))

theorem RC.ids {ι ι' : Inj} {c : AC} {v : Value} (h : RC ι c v) (hb : ∀ b ∈ c.ids, ∀ L, ι b = some L → ι' b = some L) : RC ι' c v := by
  cases c with
  | s _ => exact h
  | ns => exact h
  | np => exact h
  | er => exact h
  | em => exact h
  | sl b off len lo ex => obtain ⟨L, c, h1, h2⟩ := h; exact ⟨L, c, hb b (by simp [AC.ids]) L h1, h2⟩
  | pt b off => obtain ⟨L, h1, h2⟩ := h; exact ⟨L, hb b (by simp [AC.ids]) L h1, h2⟩
  | fn f ps =>
    obtain ⟨vs, h1, h2⟩ := h
    exact ⟨vs, h1, h2.mono_mem fun x hx y ⟨L, a, b⟩ => ⟨L, hb x.1 (by simp only [AC.ids, List.mem_map]; exact ⟨x, hx, rfl⟩) L a, b⟩⟩

theorem RV.ids {ι ι' : Inj} {c : AV} {v : Value} (h : RV ι c v) (hb : ∀ b ∈ c.ids, ∀ L, ι b = some L → ι' b = some L) : RV ι' c v := by
  cases c with
  | c x => exact RC.ids h hb
  | ag cs =>
    obtain ⟨vs, h1, h2⟩ := h
    exact ⟨vs, h1, h2.mono_mem fun x hx y hR => RC.ids hR fun b hb' => hb b (by simp only [AV.ids, List.mem_flatMap]; exact ⟨x, hx, hb'⟩)⟩

theorem RT.ids {ι ι' : Inj} {c : AT} {v : Value} (h : RT ι c v) (hb : ∀ b ∈ c.ids, ∀ L, ι b = some L → ι' b = some L) : RT ι' c v := by
  cases c with
  | v x => exact RV.ids h hb
  | tu xs =>
    obtain ⟨vs, h1, h2⟩ := h
    exact ⟨vs, h1, h2.mono_mem fun x hx y hR => RV.ids hR fun b hb' => hb b (by simp only [AT.ids, List.mem_flatMap]; exact ⟨x, hx, hb'⟩)⟩

theorem RC.mono {ι ι' : Inj} (hb : ∀ b L, ι b = some L → ι' b = some L) {c : AC} {v : Value} (h : RC ι c v) : RC ι' c v := h.ids fun b _ => hb b
theorem RV.mono {ι ι' : Inj} (hb : ∀ b L, ι b = some L → ι' b = some L) {c : AV} {v : Value} (h : RV ι c v) : RV ι' c v := h.ids fun b _ => hb b
theorem RT.mono {ι ι' : Inj} (hb : ∀ b L, ι b = some L → ι' b = some L) {c : AT} {v : Value} (h : RT ι c v) : RT ι' c v := h.ids fun b _ => hb b

theorem RC.mapped {ι : Inj} {c : AC} {v : Value} (h : RC ι c v) {b : Bid} (hb : b ∈ c.ids) : ∃ L, ι b = some L := by
  cases c with
  | s _ => simp [AC.ids] at hb
  | ns => simp [AC.ids] at hb
  | np => simp [AC.ids] at hb
  | er => simp [AC.ids] at hb
  | em => simp [AC.ids] at hb
  | sl b' off len lo ex => obtain ⟨L, c, h1, h2⟩ := h; simp only [AC.ids, List.mem_singleton] at hb; subst hb; exact ⟨L, h1⟩
  | pt b' off => obtain ⟨L, h1, h2⟩ := h; simp only [AC.ids, List.mem_singleton] at hb; subst hb; exact ⟨L, h1⟩
  | fn f ps =>
    obtain ⟨vs, h1, h2⟩ := h
    simp only [AC.ids, List.mem_map] at hb
    obtain ⟨p, hp, rfl⟩ := hb
    obtain ⟨i, hi, hp'⟩ := List.mem_iff_getElem.1 hp
    obtain ⟨y, _, L, hL, _⟩ := h2.get i p (by rw [List.getElem?_eq_getElem hi, hp'])
    exact ⟨L, hL⟩
theorem A2.mem {α β : Type} {R : α → β → Prop} {xs : List α} {ys : List β} (h : A2 R xs ys) {x : α} (hx : x ∈ xs) : ∃ y, R x y := by
  obtain ⟨i, hi, rfl⟩ := List.mem_iff_getElem.1 hx
  obtain ⟨y, _, hy⟩ := h.get i _ (List.getElem?_eq_getElem hi)
  exact ⟨y, hy⟩
theorem RV.mapped {ι : Inj} {c : AV} {v : Value} (h : RV ι c v) {b : Bid} (hb : b ∈ c.ids) : ∃ L, ι b = some L := by
  cases c with
  | c x => exact RC.mapped h hb
  | ag cs =>
    obtain ⟨vs, _, h2⟩ := h
    simp only [AV.ids, List.mem_flatMap] at hb
    obtain ⟨x, hx, hb⟩ := hb
    obtain ⟨y, hy⟩ := h2.mem hx
    exact hy.mapped hb
theorem RT.mapped {ι : Inj} {c : AT} {v : Value} (h : RT ι c v) {b : Bid} (hb : b ∈ c.ids) : ∃ L, ι b = some L := by
  cases c with
  | v x => exact RV.mapped h hb
  | tu xs =>
    obtain ⟨vs, _, h2⟩ := h
    simp only [AT.ids, List.mem_flatMap] at hb
    obtain ⟨x, hx, hb⟩ := hb
    obtain ⟨y, hy⟩ := h2.mem hx
    exact hy.mapped hb

theorem RC.one {ι : Inj} {c : AC} {v : Value} (h : RC ι c v) : v.oneCell' = true := by
  cases c with
  | s _ => obtain ⟨rfl, h⟩ := h; exact h
  | ns => cases h; rfl
  | np => cases h; rfl
  | er => obtain ⟨t, v, rfl⟩ := h; rfl
  | em => obtain ⟨a, c, rfl⟩ := h; rfl
  | sl b off len lo ex => obtain ⟨L, c, h1, rfl, h2⟩ := h; rfl
  | pt b off => obtain ⟨L, h1, rfl⟩ := h; rfl
  | fn f ps => obtain ⟨vs, rfl, h2⟩ := h; rfl

/-- A zero's cell. -/
inductive ZC where
  | i (k : IntKind)
  | b
  | s
  | ns
  | np
  | ni
  | nf
def ZC.ac : ZC → AC
  | .i k => .s (.int k 0)
  | .b => .s (.bool false)
  | .s => .s (.string ⟨#[]⟩)
  | .ns => .ns
  | .np => .np
  | .ni => .s .nilIface
  | .nf => .s .nilFunc
def zeq : ZC → Value → Bool
  | .i k, .int k' n => k == k' && n == 0
  | .b, .bool b => !b
  | .s, .string s => s.data.size == 0
  | .ns, .slice none 0 0 => true
  | .np, .pointer none => true
  | .ni, .nilIface => true
  | .nf, .nilFunc => true
  | _, _ => false
def zeqs : List ZC → List Value → Bool
  | [], [] => true
  | z :: zs, v :: vs => zeq z v && zeqs zs vs
  | _, _ => false

inductive TK where
  | str
  | int (k : IntKind)
  | bool
  | slice (e : Nat)
  | struct (fs : List (Nat × Nat))
  | arr (n e : Nat)
  | other
structure TD where
  k : TK
  size : Nat
  bytes : Nat
  zero : List ZC

def fsOk (P : Program) : List Field → List (Nat × Nat) → Bool
  | [], [] => true
  | f :: fs, p :: ps => (f.offset == p.1 && (match P.info? f.type with
    | some i => i.size == p.2 && !(i.size == 0)
    | none => false)) && fsOk P fs ps
  | _, _ => false
def tkOk (P : Program) (t : Nat) : TK → Bool
  | .str => match P.underlying t with
    | some .string => true
    | _ => false
  | .int k => match P.underlying t with
    | some (.int k') => k == k'
    | _ => false
  | .bool => match P.underlying t with
    | some .bool => true
    | _ => false
  | .slice e => match P.underlying t with
    | some (.slice e') => e == e'
    | _ => false
  | .struct ps => match P.underlying t with
    | some (.struct fs) => fsOk P fs.toList ps
    | _ => false
  | .arr n e => match P.underlying t with
    | some (.array n' e') => n == n' && e == e'
    | _ => false
  | .other => match P.underlying t with
    | some (.struct _) => false
    | some (.array _ _) => false
    | some _ => true
    | none => false
def tiOk (P : Program) (t : Nat) (d : TD) : Bool := match P.info? t with
  | some i => i.size == d.size && i.bytes == d.bytes && (match i.zero with
    | some z => zeqs d.zero z.cells.toList && z.cells.size == d.size
    | none => false)
  | none => false
def tdOk (P : Program) (t : Nat) (d : TD) : Bool := tiOk P t d && tkOk P t d.k
def fnOk (P : Program) (f : Nat) : Bool := match P.funcs[f]? with
  | some fn => !(fn.name == "runtime.NumGoroutine") && fn.body.isSome
  | none => false

/-- The program, the package variables as the logic sees them, objects of the heap that stay, the types and functions that are used. -/
structure Cx where
  P : Program
  G : Nat → Option (Loc × List AC × Nat)
  K : List (Nat × Obj)
  T : List (Nat × TD)
  F : List Nat
  tok : (T.all fun p => tdOk P p.1 p.2) = true
  fok : (F.all fun f => fnOk P f) = true
  mixed : P.follows .mixedOrders = true
  gpl : ∀ n p, G n = some p → ∀ c ∈ p.2.1, ∀ m, Bid.l m ∉ c.ids

def lk {α : Type} : List (Nat × α) → Nat → Option α
  | [], _ => none
  | (k, v) :: r, t => match Nat.beq t k with
    | true => some v
    | false => lk r t
theorem lk_mem {α : Type} : ∀ {l : List (Nat × α)} {t : Nat} {v : α}, lk l t = some v → (t, v) ∈ l
  | [], t, v, h => by cases h
  | (k, x) :: r, t, v, h => by
    simp only [lk] at h
    split at h
    · rename_i hb
      have := Nat.eq_of_beq_eq_true hb
      cases h; subst this; simp
    · exact List.mem_cons_of_mem _ (lk_mem h)
def Cx.ty (X : Cx) (t : Nat) : Option TD := lk X.T t
theorem Cx.ty_ok {X : Cx} {t : Nat} {d : TD} (h : X.ty t = some d) : tdOk X.P t d = true := by
  have := List.all_eq_true.1 X.tok _ (lk_mem h)
  exact this
def Cx.fn (X : Cx) (f : Nat) : Bool := X.F.any fun g => Nat.beq f g
theorem Cx.fn_ok {X : Cx} {f : Nat} (h : X.fn f = true) : fnOk X.P f = true := by
  obtain ⟨g, hg, hb⟩ := List.any_eq_true.1 h
  have := Nat.eq_of_beq_eq_true hb
  subst this
  exact List.all_eq_true.1 X.fok _ hg

def hget (X : Cx) (H : Heap) : Bid → Option Blk
  | .l n => (H[n]?).join
  | .g n => (X.G n).map fun p => ⟨p.2.1, false, p.2.2⟩

structure Inv (X : Cx) (ι : Inj) (H : Heap) (w : World) : Prop where
  fix : ∀ p ∈ X.K, w.heap[p.1]? = some p.2
  glo : ∀ n, ι (.g n) = (X.G n).map (·.1)
  blk : ∀ b L k, ι b = some L → hget X H b = some k → ∃ arr t fr, w.heap[L.blk]? = some (.cells arr t fr) ∧ arr.size = L.size ∧ L.off + k.cells.length ≤ L.size ∧ k.esz = L.esz ∧
    (k.own = true → fr = (0, 0) ∨ k.esz = 0 ∧ arr.size ≤ fr.1) ∧ ∀ (j : Nat) c, k.cells[j]? = some c → ∃ v, arr[L.off + j]? = some v ∧ RC ι c v
  ownK : ∀ b L k, ι b = some L → hget X H b = some k → k.own = true → ∀ p ∈ X.K, p.1 ≠ L.blk
  sep : ∀ b b' L L' k k', ι b = some L → ι b' = some L' → hget X H b = some k → hget X H b' = some k' → k.own = true → L.blk = L'.blk → b = b'

def OwnAt (X : Cx) (ι : Inj) (H : Heap) (β : Nat) : Prop := ∃ n L k, ι (.l n) = some L ∧ hget X H (.l n) = some k ∧ k.own = true ∧ L.blk = β

structure Fr (X : Cx) (ι : Inj) (H : Heap) (w w' : World) : Prop where
  os : w'.os = w.os
  tape : w'.tape = w.tape
  output : w'.output = w.output
  size : w.heap.size ≤ w'.heap.size
  keep : ∀ β, β < w.heap.size → ¬ OwnAt X ι H β → w'.heap[β]? = w.heap[β]?

theorem Fr.refl (X : Cx) (ι : Inj) (H : Heap) (w : World) : Fr X ι H w w := ⟨rfl, rfl, rfl, Nat.le_refl _, fun _ _ _ => rfl⟩

/-- Lengths grow, what is not the proof's own does not become so. -/
structure Le (X : Cx) (H H' : Heap) : Prop where
  len : H.length ≤ H'.length
  own : ∀ n k', n < H.length → hget X H' (.l n) = some k' → k'.own = true → ∃ k, hget X H (.l n) = some k ∧ k.own = true

theorem Le.refl (X : Cx) (H : Heap) : Le X H H := ⟨Nat.le_refl _, fun n k' _ h ho => ⟨k', h, ho⟩⟩
theorem Le.trans {X : Cx} {A B C : Heap} (h : Le X A B) (h' : Le X B C) : Le X A C :=
  ⟨Nat.le_trans h.len h'.len, fun n k' hn hk ho => by
    obtain ⟨k, hk, ho⟩ := h'.own n k' (Nat.lt_of_lt_of_le hn h.len) hk ho
    exact h.own n k hn hk ho⟩

/-- One step: from (ι, H, w) to (ι', H', w'). -/
structure Step (X : Cx) (ι : Inj) (H : Heap) (w : World) (ι' : Inj) (H' : Heap) (w' : World) : Prop where
  inv : Inv X ι' H' w'
  le : Le X H H'
  agree : ∀ b, (∀ n, b = .l n → n < H.length ∨ H'.length ≤ n) → ι' b = ι b
  new : ∀ n L, H.length ≤ n → n < H'.length → ι' (.l n) = some L → w.heap.size ≤ L.blk ∨ OwnAt X ι H L.blk
  fr : Fr X ι H w w'

/-- Where a function began. -/
structure St where
  ι : Inj
  H : Heap
  w : World

structure Good (X : Cx) (S : St) (ι : Inj) (H : Heap) (w : World) : Prop where
  inv : Inv X ι H w
  le : Le X S.H H
  old : ∀ b, (∀ n, b = .l n → n < S.H.length) → ι b = S.ι b
  none : ∀ n, H.length ≤ n → ι (.l n) = none
  new : ∀ n L, S.H.length ≤ n → ι (.l n) = some L → S.w.heap.size ≤ L.blk ∨ OwnAt X S.ι S.H L.blk
  fr : Fr X S.ι S.H S.w w

theorem Good.ownAt {X : Cx} {S : St} {ι : Inj} {H : Heap} {w : World} (h : Good X S ι H w) {β : Nat} (ho : OwnAt X ι H β) : S.w.heap.size ≤ β ∨ OwnAt X S.ι S.H β := by
  obtain ⟨n, L, k, h1, h2, h3, rfl⟩ := ho
  by_cases hn : n < S.H.length
  · obtain ⟨k0, h4, h5⟩ := h.le.own n k hn h2 h3
    exact .inr ⟨n, L, k0, (h.old (.l n) (fun m e => by cases e; exact hn)).symm.trans h1, h4, h5, rfl⟩
  · exact h.new n L (by omega) h1

theorem Good.step {X : Cx} {S : St} {ι ι' : Inj} {H H' : Heap} {w w' : World} (h : Good X S ι H w) (s : Step X ι H w ι' H' w') : Good X S ι' H' w' where
  inv := s.inv
  le := h.le.trans s.le
  old b hb := by
    rw [s.agree b (fun n e => .inl (Nat.lt_of_lt_of_le (hb n e) h.le.len))]
    exact h.old b hb
  none n hn := by
    rw [s.agree (.l n) (fun m e => by cases e; exact .inr hn)]
    exact h.none n (Nat.le_trans s.le.len hn)
  new n L hn hL := by
    by_cases h1 : n < H.length
    · rw [s.agree (.l n) (fun m e => by cases e; exact .inl h1)] at hL
      exact h.new n L hn hL
    · by_cases h2 : n < H'.length
      · rcases s.new n L (by omega) h2 hL with h3 | h3
        · exact .inl (Nat.le_trans h.fr.size h3)
        · exact h.ownAt h3
      · rw [s.agree (.l n) (fun m e => by cases e; exact .inr (by omega)), h.none n (by omega)] at hL
        cases hL
  fr := ⟨s.fr.os.trans h.fr.os, s.fr.tape.trans h.fr.tape, s.fr.output.trans h.fr.output, Nat.le_trans h.fr.size s.fr.size, fun β hβ hno => by
    rw [s.fr.keep β (Nat.lt_of_lt_of_le hβ h.fr.size) (fun ho => by
      rcases h.ownAt ho with h1 | h1
      · omega
      · exact hno h1)]
    exact h.fr.keep β hβ hno⟩

/-- Mapped names stay mapped. -/
theorem Good.keeps {X : Cx} {S : St} {ι ι' : Inj} {H H' : Heap} {w w' : World} (h : Good X S ι H w) (s : Step X ι H w ι' H' w') : ∀ b L, ι b = some L → ι' b = some L := by
  intro b L hL
  rw [s.agree b ?_]
  · exact hL
  · intro n e
    subst e
    by_cases hn : n < H.length
    · exact .inl hn
    · rw [h.none n (by omega)] at hL; cases hL

theorem Step.refl {X : Cx} {ι : Inj} {H : Heap} {w : World} (h : Inv X ι H w) : Step X ι H w ι H w :=
  ⟨h, Le.refl _ _, fun _ _ => rfl, fun n L h1 h2 => by omega, Fr.refl _ _ _ _⟩

/-- A FUNCTION's CONTRACT: called with such arguments in such a heap it hands back rs and leaves H'. -/
def ACalls (X : Cx) (f : FuncId) (args : List AV) (H : Heap) (rs : AT) (H' : Heap) : Prop :=
  ∀ (ι : Inj) (w : World) (vs : Array Value), Inv X ι H w → (∀ n, H.length ≤ n → ι (.l n) = none) → A2 (RV ι) args vs.toList →
    Calls X.P f vs w fun e w' => ∃ ι' r, e = .returned r ∧ RT ι' rs r ∧ Step X ι H w ι' H' w'

/-! ## Temporaries -/

abbrev Env := List (Nat × Option AT)
def Env.get : Env → Nat → Option AT
  | [], _ => none
  | (k, v) :: r, t => match Nat.beq t k with
    | true => v
    | false => Env.get r t
theorem Env.get_same (r : Env) (v : Option AT) (t : Nat) : Env.get ((t, v) :: r) t = v := by
  have : Nat.beq t t = true := Nat.beq_refl t
  simp [Env.get]
theorem Env.get_ne (r : Env) (v : Option AT) {t k : Nat} (h : t ≠ k) : Env.get ((k, v) :: r) t = Env.get r t := by
  have : Nat.beq t k = false := by cases hb : Nat.beq t k with | false => rfl | true => exact absurd (Nat.eq_of_beq_eq_true hb) h
  simp [Env.get, this]

/-- A frame: how many temporaries, and what is deferred. -/
structure FK where
  n : Nat
  d : List Deferred
instance : Coe FK Nat := ⟨FK.n⟩
structure RE (N : FK) (ι : Inj) (E : Env) (a : Act) : Prop where
  size : a.tmps.size = N
  defers : a.defers = N.d
  val : ∀ t v, E.get t = some v → ∃ x, a.tmps[t]? = some x ∧ RT ι v x

theorem RE.mono {N : FK} {ι ι' : Inj} {E : Env} {a : Act} (h : RE N ι E a) (hb : ∀ b L, ι b = some L → ι' b = some L) : RE N ι' E a :=
  ⟨h.size, h.defers, fun t v ht => let ⟨x, h1, h2⟩ := h.val t v ht; ⟨x, h1, h2.mono hb⟩⟩

theorem RE.put {N : FK} {ι : Inj} {E : Env} {a : Act} (h : RE N ι E a) {d : Nat} (hd : d < N) {v : AT} {x : Value} (hv : RT ι v x) : RE N ι ((d, some v) :: E) (a.put (some d) x) := by
  refine ⟨by simp [Act.put, h.size], h.defers, ?_⟩
  intro t v' ht
  by_cases e : t = d
  · subst e
    rw [Env.get_same] at ht
    cases ht
    exact ⟨x, by simp [Act.put, h.size, hd], hv⟩
  · rw [Env.get_ne _ _ e] at ht
    obtain ⟨y, h1, h2⟩ := h.val t v' ht
    exact ⟨y, by simp only [Act.put]; rw [Array.getElem?_setIfInBounds_ne (by omega)]; exact h1, h2⟩

theorem RE.drop {N : FK} {ι : Inj} {E : Env} {a : Act} (h : RE N ι E a) (d : Option Nat) (x : Value) (E' : Env) (hE : ∀ t v, E'.get t = some v → d ≠ some t ∧ E.get t = some v) : RE N ι E' (a.put d x) := by
  cases d with
  | none => exact ⟨h.size, h.defers, fun t v ht => h.val t v (hE t v ht).2⟩
  | some d =>
    refine ⟨by simp [Act.put, h.size], h.defers, fun t v ht => ?_⟩
    obtain ⟨h1, h2⟩ := hE t v ht
    obtain ⟨y, h3, h4⟩ := h.val t v h2
    exact ⟨y, by simp only [Act.put]; rw [Array.getElem?_setIfInBounds_ne (fun e => h1 (by rw [e]))]; exact h3, h4⟩

/-- E' says no more than E. -/
def Sub (E' E : Env) : Prop := ∀ t v, E'.get t = some v → E.get t = some v
theorem RE.sub {N : FK} {ι : Inj} {E E' : Env} {a : Act} (h : RE N ι E a) (s : Sub E' E) : RE N ι E' a := ⟨h.size, h.defers, fun t v ht => h.val t v (s t v ht)⟩
theorem Sub.nil (E : Env) : Sub [] E := fun t v h => by simp [Env.get] at h
theorem Sub.cons {E' E : Env} {t : Nat} {v : AT} (h : E.get t = some v) (s : Sub E' E) : Sub ((t, some v) :: E') E := by
  intro u x hx
  by_cases e : u = t
  · subst e; rw [Env.get_same] at hx; cases hx; exact h
  · rw [Env.get_ne _ _ e] at hx; exact s u x hx

/-! ## Control -/

inductive Ax where
  | normal
  | exit (id : Nat)
  | ret
def Ax.ex : Ax → Exit
  | .normal => .normal
  | .exit id => .exit id
  | .ret => .ret

abbrev APost := Ax → Env → Heap → Prop

/-- What the machine's post is. -/
def Post (X : Cx) (N : FK) (S : St) (Q : APost) : Exit → Act → World → Prop := fun e a w => ∃ x E H ι, e = Ax.ex x ∧ Q x E H ∧ Good X S ι H w ∧ RE N ι E a

def AW (X : Cx) (N : FK) (S : St) (c : Code) (E : Env) (H : Heap) (Q : APost) : Prop :=
  ∀ ι a w, Good X S ι H w → RE N ι E a → c.wp X.P (Post X N S Q) a w

def Ax.then (K : Env → Heap → Prop) (Q : APost) : APost
  | .normal, E, H => K E H
  | x, E, H => Q x E H
def Ax.inBlock (id : Nat) (Q : APost) : APost
  | .exit i, E, H => if i = id then Q .normal E H else Q (.exit i) E H
  | x, E, H => Q x E H

section
variable {X : Cx} {N : FK} {S : St} {E : Env} {H : Heap} {Q : APost}

theorem aw_skip (h : Q .normal E H) : AW X N S .skip E H Q := fun ι a w hg he => wp_skip ⟨.normal, E, H, ι, rfl, h, hg, he⟩
theorem aw_label {l : Nat} (h : Q .normal E H) : AW X N S (.label l) E H Q := fun ι a w hg he => wp_label ⟨.normal, E, H, ι, rfl, h, hg, he⟩
theorem aw_exit {id : Nat} (h : Q (.exit id) E H) : AW X N S (.exit id) E H Q := fun ι a w hg he => wp_exit ⟨.exit id, E, H, ι, rfl, h, hg, he⟩
theorem aw_ret (h : Q .ret E H) : AW X N S .ret E H Q := fun ι a w hg he => wp_ret ⟨.ret, E, H, ι, rfl, h, hg, he⟩

theorem aw_mono {c : Code} {Q' : APost} (h : AW X N S c E H Q) (hq : ∀ x E H, Q x E H → Q' x E H) : AW X N S c E H Q' :=
  fun ι a w hg he => wp_mono (h ι a w hg he) fun e a' w' ⟨x, E', H', ι', h1, h2, h3, h4⟩ => ⟨x, E', H', ι', h1, hq _ _ _ h2, h3, h4⟩

theorem aw_seq {x y : Code} (h : AW X N S x E H (Ax.then (fun E' H' => AW X N S y E' H' Q) Q)) : AW X N S (.seq x y) E H Q := by
  intro ι a w hg he
  refine wp_seq (wp_mono (h ι a w hg he) ?_)
  rintro e a' w' ⟨x, E', H', ι', rfl, h2, h3, h4⟩
  cases x with
  | normal => exact h2 ι' a' w' h3 h4
  | exit id => exact ⟨.exit id, E', H', ι', rfl, h2, h3, h4⟩
  | ret => exact ⟨.ret, E', H', ι', rfl, h2, h3, h4⟩

theorem aw_block {id : Nat} {c : Code} (h : AW X N S c E H (Ax.inBlock id Q)) : AW X N S (.block id c) E H Q := by
  intro ι a w hg he
  refine wp_block (wp_mono (h ι a w hg he) ?_)
  rintro e a' w' ⟨x, E', H', ι', rfl, h2, h3, h4⟩
  cases x with
  | normal => exact ⟨.normal, E', H', ι', rfl, h2, h3, h4⟩
  | exit i =>
    simp only [Ax.inBlock] at h2
    simp only [Ax.ex, Exit.inBlock]
    by_cases e : i = id
    · rw [if_pos e] at h2 ⊢; exact ⟨.normal, E', H', ι', rfl, h2, h3, h4⟩
    · rw [if_neg e] at h2 ⊢; exact ⟨.exit i, E', H', ι', rfl, h2, h3, h4⟩
  | ret => exact ⟨.ret, E', H', ι', rfl, h2, h3, h4⟩

/-- A loop: its heads are told by states s of a type of one's own; every round that comes back is at a smaller number. -/
theorem aw_loop {σ : Type} (st : σ → Env) (hp : σ → Heap) (pre : σ → Prop) (μ : σ → Nat) (s₀ : σ) {c : Code} (h₀ : pre s₀) (hE : Sub (st s₀) E) (hH : hp s₀ = H)
    (round : ∀ s, pre s → AW X N S c (st s) (hp s) (Ax.then (fun E' H' => ∃ s', pre s' ∧ μ s' < μ s ∧ Sub (st s') E' ∧ hp s' = H') Q)) : AW X N S (.loop c) E H Q := by
  intro ι a w hg he
  refine wp_loop_ghost (fun n a w => ∃ s ι, μ s = n ∧ pre s ∧ Good X S ι (hp s) w ∧ RE N ι (st s) a) (μ s₀) ⟨s₀, ι, rfl, h₀, hH ▸ hg, he.sub hE⟩ ?_
  rintro n a w ⟨s, ι, rfl, hp1, hg, he⟩
  refine wp_mono (round s hp1 ι a w hg he) ?_
  rintro e a' w' ⟨x, E', H', ι', rfl, h2, h3, h4⟩
  cases x with
  | normal =>
    obtain ⟨s', a1, a2, a3, rfl⟩ := h2
    exact ⟨μ s', a2, s', ι', rfl, a1, h3, h4.sub a3⟩
  | exit id => exact ⟨.exit id, E', H', ι', rfl, h2, h3, h4⟩
  | ret => exact ⟨.ret, E', H', ι', rfl, h2, h3, h4⟩

theorem aw_sub {c : Code} {E' : Env} (s : Sub E' E) (h : AW X N S c E' H Q) : AW X N S c E H Q := fun ι a w hg he => h ι a w hg (he.sub s)

theorem aw_cond {t : Nat} {x y : Code} {b : Bool} (hc : E.get t = some (.v (.c (.s (.bool b))))) (h1 : b = true → AW X N S x E H Q) (h2 : b = false → AW X N S y E H Q) : AW X N S (.cond (.tmp t) x y) E H Q := by
  intro ι a w hg he
  obtain ⟨v, h3, h4⟩ := he.val t _ hc
  obtain ⟨rfl, _⟩ : v = .bool b ∧ _ := h4
  refine wp_cond_split (t := b) (by simp [Act.eval, h3]) (fun hb => h1 hb ι a w hg he) (fun hb => h2 hb ι a w hg he)
end
end Go.Aw
