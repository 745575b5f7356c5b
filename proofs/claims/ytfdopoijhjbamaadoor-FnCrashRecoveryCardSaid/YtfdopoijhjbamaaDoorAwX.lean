/- Cursors: memory that is written through a pointer from outside. -/
import Derived.Test.YtfdopoijhjbamaaDoorAwY
import Derived.Test.YtfdopoijhjbamaaDoorAwU
import Derived.Test.YtfdopoijhjbamaaDoorAwT
namespace Go.Aw
set_option linter.unusedVariables false
set_option linter.unusedSimpArgs false
section
variable {X : Cx} {N : FK} {S : St} {ops : Array Oper} {chk : List (Nat × Nat) → Bool} {k : Nat} {o : Oper} {rest : List Oper} {E : Env} {H L G : Heap} {K : Env → Heap → Prop} {Q : APost}

theorem r_nilc {x : Operand} {b : Bid} {off : Nat} (ho : o.op = .nilCheck x) (hx : opv X E x = some (.v (.c (.pt b off)))) (H : Heap) : OS X o E H (some (.v (.c (.pt b off)))) H :=
  os_val fun ι a w hi hr => by
    obtain ⟨M, h1, h2⟩ := hr x (by simp [ho, Op.operands]) _ hx
    exact ⟨ptv M off, by simp [execOp, ho, h2, ptv], M, h1, rfl⟩
theorem r_addW {t u : TypeId} {x y : Operand} {k : IntKind} {a b : Int} (ho : o.op = .binOp .add t x y u) (hx : opv X E x = some (Vi k a)) (hy : opv X E y = some (Vi k b)) (H : Heap) : OS X o E H (some (Vi k (k.wrap (a + b)))) H := r_bin ho hx hy rfl H
theorem r_mulW {t u : TypeId} {x y : Operand} {k : IntKind} {a b : Int} (ho : o.op = .binOp .mul t x y u) (hx : opv X E x = some (Vi k a)) (hy : opv X E y = some (Vi k b)) (H : Heap) : OS X o E H (some (Vi k (k.wrap (a * b)))) H := r_bin ho hx hy rfl H
theorem r_shrW {t u : TypeId} {x y : Operand} {k k' : IntKind} {a b : Int} (ho : o.op = .binOp .shr t x y u) (hx : opv X E x = some (Vi k a)) (hy : opv X E y = some (Vi k' b)) (hb : 0 ≤ b) (H : Heap) : OS X o E H (some (Vi k (a.fdiv (2 ^ (min b.toNat k.bits))))) H :=
  os_val fun ι ac w hi hr => by
    obtain ⟨h1, _⟩ : ac.eval x = .int k a ∧ _ := hr x (by simp [ho, Op.operands]) _ hx
    obtain ⟨h2, _⟩ : ac.eval y = .int k' b ∧ _ := hr y (by simp [ho, Op.operands]) _ hy
    refine ⟨_, ?_, rfl, rfl⟩
    have hn : ¬ b < 0 := by omega
    simp [execOp, ho, h1, h2, eqGuard, binOp, Op.shift, hn]
theorem r_andW {t u : TypeId} {x y : Operand} {k : IntKind} {a b : Int} (ho : o.op = .binOp .and t x y u) (hx : opv X E x = some (Vi k a)) (hy : opv X E y = some (Vi k b)) (H : Heap) : OS X o E H (some (Vi k (bits .and k a b))) H :=
  os_val fun ι ac w hi hr => by
    obtain ⟨h1, _⟩ : ac.eval x = .int k a ∧ _ := hr x (by simp [ho, Op.operands]) _ hx
    obtain ⟨h2, _⟩ : ac.eval y = .int k b ∧ _ := hr y (by simp [ho, Op.operands]) _ hy
    refine ⟨_, ?_, rfl, rfl⟩
    simp [execOp, ho, h1, h2, eqGuard, binOp, intBits_and]
theorem r_convW {s d a b a' b' : Nat} {z z' : List ZC} {x : Operand} {k k' : IntKind} {n : Int} (ho : o.op = .convert s d x) (hs : X.ty s = some ⟨.int k, a, b, z⟩) (hd : X.ty d = some ⟨.int k', a', b', z'⟩) (hx : opv X E x = some (Vi k n)) (H : Heap) : OS X o E H (some (Vi k' (k'.wrap n))) H := r_conv ho (ty_int hs) (ty_int hd) hx H
theorem and255 (a : Int) : 0 ≤ bits .and .u64 a 255 ∧ bits .and .u64 a 255 ≤ 255 := by
  have h : ((BitVec.ofInt 64 a) &&& (BitVec.ofInt 64 255)).toNat ≤ 255 := by
    rw [BitVec.toNat_and]
    exact Nat.and_le_right
  have e : bits .and .u64 a 255 = IntKind.u64.wrap (((BitVec.ofInt 64 a) &&& (BitVec.ofInt 64 255)).toNat : Int) := rfl
  rw [e]
  generalize ((BitVec.ofInt 64 a) &&& (BitVec.ofInt 64 255)).toNat = m at h
  have : IntKind.u64.wrap (m : Int) = m := by
    simp [IntKind.wrap, IntKind.bits, IntKind.signed]
    try omega
  rw [this]; omega
theorem r_remI {t u : TypeId} {x y : Operand} {a b : Int} (ho : o.op = .binOp .rem t x y u) (hx : opv X E x = some (I64 a)) (hy : opv X E y = some (I64 b)) (hb : 0 < b) (H : Heap) : OS X o E H (some (I64 (a.tmod b))) H := r_rem ho hx hy (by omega) H

theorem wf_setC {ι : Inj} {m : Nat} {b : Blk} (hc : ∀ c ∈ b.cells, Lo G.length c.ids) (hm : m < G.length) (h : WF X ι G) : WF X ι (G.set m (some b)) := by
  intro bd M k hb hk c hcc
  rw [List.length_set]
  by_cases e : bd = .l m
  · subst e
    rw [hget_set_same hm] at hk
    cases hk
    exact hc c hcc
  · rw [hget_set_ne e] at hk
    exact h bd M k hb hk c hcc
/-- A function that writes the cursor at m. -/
theorem acallsC {f : FuncId} {fn : Func} {c : Code} {args : List AV} {m : Nat} {b0 : Option Blk} {b : Blk} {rs : AT} (hm : G[m]? = some b0) (hpl : ∀ c ∈ b.cells, Lo G.length c.ids) (hf : X.P.funcs[f]? = some fn) (hb : fn.body = some c) (hlen : Nat.ble args.length fn.ntmps = true)
    (h : ∀ S, S.H = G → WF X S.ι G → AW X ⟨fn.ntmps, []⟩ S c (argE 0 args) (G ++ []) (Fin X fn.results.toList (G.set m (some b)) [] rs)) : ACalls X f args G rs (G.set m (some b)) := by
  have hlt := (List.getElem?_eq_some_iff.1 hm).1
  have := acalls_of (H := G) (H1 := G.set m (some b)) (Ln := []) hf hb hlen (by simp) (fun ι hw => wf_setC hpl hlt hw) (fun S hS hw => by have := h S hS hw; simpa using this)
  simpa using this
/-- .. that leaves new memory, too. -/
theorem acallsCN {f : FuncId} {fn : Func} {c : Code} {args : List AV} {m : Nat} {b0 : Option Blk} {b : Blk} {Ln : Heap} {rs : AT} (hm : G[m]? = some b0) (hpl : ∀ c ∈ b.cells, Lo G.length c.ids) (hf : X.P.funcs[f]? = some fn) (hb : fn.body = some c) (hlen : Nat.ble args.length fn.ntmps = true)
    (h : ∀ S, S.H = G → WF X S.ι G → AW X ⟨fn.ntmps, []⟩ S c (argE 0 args) (G ++ []) (Fin X fn.results.toList (G.set m (some b)) Ln rs)) : ACalls X f args G rs (G.set m (some b) ++ Ln) := by
  have hlt := (List.getElem?_eq_some_iff.1 hm).1
  exact acalls_of (H := G) (H1 := G.set m (some b)) (Ln := Ln) hf hb hlen (by simp) (fun ι hw => wf_setC hpl hlt hw) (fun S hS hw => by have := h S hS hw; simpa using this)

/-- A row that reads as a list, whatever the cursor holds. -/
def RdC {α : Type} (X : Cx) (G : Heap) (m : Nat) (sz : Nat) (enc : α → List AC) (v : AC) (xs : List α) : Prop := m < G.length ∧ ∀ x, Rd X (G.set m x) sz enc v xs
theorem RdC.rd {α : Type} {m sz : Nat} {enc : α → List AC} {v : AC} {xs : List α} (h : RdC X G m sz enc v xs) : Rd X G sz enc v xs := by
  have := h.2 G[m]?.join
  obtain ⟨b, hb⟩ : ∃ b, G[m]? = some b := ⟨G[m]'h.1, List.getElem?_eq_getElem h.1⟩
  rw [hb, Option.join_some, set_same hb] at this
  exact this
theorem RdC.set {α : Type} {m sz : Nat} {enc : α → List AC} {v : AC} {xs : List α} (h : RdC X G m sz enc v xs) (y : Option Blk) : RdC X (G.set m y) m sz enc v xs :=
  ⟨by rw [List.length_set]; exact h.1, fun x => by rw [List.set_set]; exact h.2 x⟩
theorem RdC.app {α : Type} {m sz : Nat} {enc : α → List AC} {v : AC} {xs : List α} (h : RdC X G m sz enc v xs) : RdC X (G ++ L) m sz enc v xs :=
  ⟨by rw [List.length_append]; exact Nat.lt_of_lt_of_le h.1 (Nat.le_add_right _ _), fun x => by rw [List.set_append_left _ _ h.1]; exact (h.2 x).app⟩
theorem RdC.lo {α : Type} {m sz : Nat} {enc : α → List AC} {v : AC} {xs : List α} (h : RdC X G m sz enc v xs) : Lo G.length v.ids := h.rd.lo
theorem RdC.mk {α : Type} {j sz : Nat} {enc : α → List AC} {v : AC} {xs : List α} (h : Rd X H sz enc v xs) (hj : j < L.length) : RdC X (H ++ L) (H.length + j) sz enc v xs :=
  ⟨by rw [List.length_append]; omega, fun x => by rw [set_own]; exact h.app⟩
theorem RdC.own {α : Type} {j n lo z m sz : Nat} {enc : α → List AC} {ex ow : Bool} {ys : List α} (hm : m < G.length) (hs : ∀ x, (enc x).length = sz) (h : L[j]? = some (some ⟨ys.flatMap enc, ow, z⟩)) (hn : n = ys.length) : RdC X (G ++ L) m sz enc (.sl (.l (G.length + j)) 0 n lo ex) ys :=
  ⟨by rw [List.length_append]; omega, fun x => by
    have := Rd.own (X := X) (H := G.set m x) (lo := lo) (ex := ex) hs h hn
    rw [List.length_set] at this
    rw [List.set_append_left _ _ hm]; exact this⟩
theorem at_g {m : Nat} {b : Option Blk} (h : G[m]? = some b) : (G ++ L)[m]? = some b := by rw [List.getElem?_append_left (List.getElem?_eq_some_iff.1 h).1]; exact h
theorem hget_g {m : Nat} {b : Blk} (h : G[m]? = some (some b)) : hget X G (.l m) = some b := by simp [hget, h]
theorem ld_g {m off n : Nat} {b : Blk} (h : G[m]? = some (some b)) (hn : Nat.ble (off + n) b.cells.length = true) : ld X G (.l m) off n = some ((b.cells.drop off).take n) := by
  unfold ld
  rw [hget_g h]
  simp only
  rw [if_pos (Nat.le_of_ble_eq_true hn)]
theorem r_loadG {t : Nat} {x : Operand} {d : TD} {m off : Nat} {b : Blk} {v : AV} (ho : o.op = .load t x) (ht : X.ty t = some d) (hx : opv X E x = some (.v (.c (.pt (.l m) off)))) (hm : G[m]? = some (some b)) (hn : Nat.ble (off + d.size) b.cells.length = true) (hv : ldv d ((b.cells.drop off).take d.size) = some v) : OS X o E (G ++ L) (some (.v v)) (G ++ L) :=
  r_loadA ho ht hx (ld_g hm hn) hv
theorem r_storeG {t : Nat} {x y : Operand} {d : TD} {m off : Nat} {v : AV} {b : Blk} (ho : o.op = .store t x y) (ht : X.ty t = some d) (hx : opv X E x = some (.v (.c (.pt (.l m) off)))) (hy : opv X E y = some (.v v)) (hm : G[m]? = some (some b)) (hok : b.own = true)
    (hs : v.cells.length = d.size) (hle : off + v.cells.length ≤ b.cells.length) : OS X o E (G ++ L) none (G.set m (some ⟨lput b.cells off v.cells, b.own, b.esz⟩) ++ L) := by
  have := r_store (X := X) (H := G ++ L) ho ht hx hy (hget_g (at_g hm)) hok hs hle
  rw [List.set_append_left _ _ (List.getElem?_eq_some_iff.1 hm).1] at this
  exact this
theorem gset {f : FuncId} {args : List AV} {r : AT} {m : Nat} {x : Option Blk} (hm : m < G.length) (h : ACalls X f args (G ++ L) r ((G ++ L).set m x)) : ACalls X f args (G ++ L) r (G.set m x ++ L) := by
  rw [List.set_append_left _ _ hm] at h; exact h
theorem gsetN {f : FuncId} {args : List AV} {r : AT} {m : Nat} {x : Option Blk} {Ln : Heap} (hm : m < G.length) (h : ACalls X f args (G ++ L) r ((G ++ L).set m x ++ Ln)) : ACalls X f args (G ++ L) r (G.set m x ++ (L ++ Ln)) := by
  rw [List.set_append_left _ _ hm, List.append_assoc] at h; exact h
theorem len_set (m : Nat) (x : Option Blk) : (G.set m x).length = G.length := List.length_set
end

/-- A cursor: the bytes, the place, the sum. -/
structure Cur where
  a : List UInt8
  i : Nat
  u : Int
def Cur.b (c : Cur) : Int := (c.a[c.i]?.map fun (x : UInt8) => (x.toNat : Int)).getD 0
def Cur.w (c : Cur) : Int := IntKind.u64.wrap (IntKind.u64.wrap (IntKind.u64.wrap (c.u * 6364136223846793005) + IntKind.u64.wrap c.b) + 889889)
def Cur.v (c : Cur) : Int := if c.i + 1 ≤ c.a.length then c.b else IntKind.i64.wrap (bits .and .u64 (c.w.fdiv (2 ^ 40)) 255)
def Cur.next (c : Cur) : Cur := ⟨c.a, c.i + 1, c.w⟩
theorem Cur.b_bd (c : Cur) : 0 ≤ c.b ∧ c.b ≤ 255 := by
  unfold Cur.b
  cases h : c.a[c.i]? with
  | none => simp
  | some x => have := x.toNat_lt; simp; omega
theorem Cur.v_bd (c : Cur) : 0 ≤ c.v ∧ c.v ≤ 255 := by
  unfold Cur.v
  have h1 := c.b_bd
  have h2 := and255 (c.w.fdiv (2 ^ 40))
  split
  · exact h1
  · rw [wrap64_id (by omega) (by omega)]; exact h2
/-- The cursor's block; v is the row of its bytes. -/
abbrev curB (v : AC) (c : Cur) : Option Blk := some ⟨[v, .s (.int .i64 (c.i : Int)), .s (.int .u64 c.u)], true, 0⟩
/-- A draw below n. -/
def Cur.pick (c : Cur) (n : Int) : Int × Cur := if n ≤ 1 then (0, c) else if n > 200 then ((c.v * 256 + c.next.v).tmod n, c.next.next) else (c.v.tmod n, c.next)
theorem Cur.pick_bd (c : Cur) {n : Int} (hn : 1 ≤ n) : 0 ≤ (c.pick n).1 ∧ (c.pick n).1 < n := by
  have h1 := c.v_bd
  have h2 := c.next.v_bd
  unfold Cur.pick
  split
  · exact ⟨by show (0 : Int) ≤ 0; omega, by show (0 : Int) < n; omega⟩
  · split
    · exact ⟨Int.tmod_nonneg _ (by omega), Int.tmod_lt_of_pos _ (by omega)⟩
    · exact ⟨Int.tmod_nonneg _ (by omega), Int.tmod_lt_of_pos _ (by omega)⟩
theorem Cur.pick_le (c : Cur) (n : Int) : (c.pick n).2.i ≤ c.i + 2 := by
  unfold Cur.pick
  split
  · simp
  · split <;> simp [Cur.next]
theorem Cur.pick_a (c : Cur) (n : Int) : (c.pick n).2.a = c.a := by
  unfold Cur.pick
  split
  · rfl
  · split <;> rfl
end Go.Aw
