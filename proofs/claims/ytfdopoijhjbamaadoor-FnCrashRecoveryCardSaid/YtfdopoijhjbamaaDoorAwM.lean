/- Rules in the form that the walks' printer uses: control step by step; memory of one's own behind the caller's. -/
import Derived.Test.YtfdopoijhjbamaaDoorAwK
namespace Go.Aw
open Go.RowKit
set_option linter.unusedVariables false
set_option linter.unusedSimpArgs false

theorem then_n {K : Env → Heap → Prop} {Q : APost} {E : Env} {H : Heap} (h : K E H) : Ax.then K Q .normal E H := h
theorem then_x {K : Env → Heap → Prop} {Q : APost} {E : Env} {H : Heap} {i : Nat} (h : Q (.exit i) E H) : Ax.then K Q (.exit i) E H := h
theorem then_r {K : Env → Heap → Prop} {Q : APost} {E : Env} {H : Heap} (h : Q .ret E H) : Ax.then K Q .ret E H := h
theorem inb_n {Q : APost} {E : Env} {H : Heap} {j : Nat} (h : Q .normal E H) : Ax.inBlock j Q .normal E H := h
theorem inb_r {Q : APost} {E : Env} {H : Heap} {j : Nat} (h : Q .ret E H) : Ax.inBlock j Q .ret E H := h
theorem inb_e {Q : APost} {E : Env} {H : Heap} {j : Nat} (h : Q .normal E H) : Ax.inBlock j Q (.exit j) E H := by simp only [Ax.inBlock, if_true]; exact h
theorem inb_x {Q : APost} {E : Env} {H : Heap} {i j : Nat} (hne : Nat.beq i j = false) (h : Q (.exit i) E H) : Ax.inBlock j Q (.exit i) E H := by
  simp only [Ax.inBlock]
  rw [if_neg (fun e => by subst e; simp at hne)]
  exact h

section
variable {X : Cx} {N : FK} {S : St} {ops : Array Oper} {chk : List (Nat × Nat) → Bool} {k : Nat} {o : Oper} {rest : List Oper} {E : Env} {H L : Heap} {K : Env → Heap → Prop} {Q : APost}

theorem r_lenR {α : Type} {t e s1 b1 : Nat} {z1 : List ZC} {x : Operand} {v : AC} {enc : α → List AC} {xs : List α} (ho : o.op = .call { callee := .builtin .len, args := #[x], argTypes := #[t] }) (ht : X.ty t = some ⟨.slice e, s1, b1, z1⟩)
    (hx : opv X E x = some (.v (.c v))) (hr : ∃ H sz, Rd (α := α) X H sz enc v xs) (H : Heap) : OS X o E H (some (I64 xs.length)) H := by
  obtain ⟨H0, sz, hr⟩ := hr
  exact r_len ho (ty_slice ht) hx hr.slen H

/-- New memory behind one's own. -/
theorem rr_memL {r : Option AT} {Ln : Heap} (h : OS X o E (H ++ L) r (H ++ L ++ Ln)) (hd : dstOk N o = true) {g : Bool × Bool} (hg : gd ops o E = some g) (hgt : g.1 = g.2) (t : RR X N ops (fun T => chk ((k, 1) :: T)) (k + 1) rest (E.out o r) (H ++ (L ++ Ln)) K) : RR X N ops chk k (o :: rest) E (H ++ L) K := by
  refine rr_mem h hd hg hgt ?_
  rw [List.append_assoc]
  exact t
theorem len_id (X : Cx) (H L : Heap) : (H ++ L).length = H.length + L.length := List.length_append
theorem r_allocL {t : Nat} {d : TD} (ho : o.op = .alloc t) (ht : X.ty t = some d) : OS X o E (H ++ L) (some (.v (.c (.pt (.l (H.length + L.length)) 0)))) (H ++ L ++ [some ⟨d.zero.map ZC.ac, true, 0⟩]) := by
  have := r_alloc (X := X) (E := E) (H := H ++ L) ho ht
  rw [List.length_append] at this
  exact this
theorem r_boxL {t : Nat} {x : Operand} {v : AV} (ho : o.op = .box t x) (hx : opv X E x = some (.v v)) : OS X o E (H ++ L) (some (.v (.c (.pt (.l (H.length + L.length)) 0)))) (H ++ L ++ [some ⟨v.cells, true, 0⟩]) := by
  have := r_box (X := X) (E := E) (H := H ++ L) ho hx
  rw [List.length_append] at this
  exact this
theorem hget_own {j : Nat} {b : Blk} (h : L[j]? = some (some b)) : hget X (H ++ L) (.l (H.length + j)) = some b := by
  simp only [hget]
  rw [List.getElem?_append_right (by omega), Nat.add_sub_cancel_left, h]; rfl
theorem set_own (j : Nat) (b : Option Blk) : (H ++ L).set (H.length + j) b = H ++ L.set j b := by
  rw [List.set_append_right _ _ (by omega), Nat.add_sub_cancel_left]
theorem r_storeL {t : Nat} {x y : Operand} {d : TD} {j off : Nat} {v : AV} {b : Blk} (ho : o.op = .store t x y) (ht : X.ty t = some d) (hx : opv X E x = some (.v (.c (.pt (.l (H.length + j)) off)))) (hy : opv X E y = some (.v v)) (hk : L[j]? = some (some b)) (hok : b.own = true)
    (hs : v.cells.length = d.size) (hle : off + v.cells.length ≤ b.cells.length) : OS X o E (H ++ L) none (H ++ L.set j (some ⟨lput b.cells off v.cells, b.own, b.esz⟩)) := by
  have := r_store (X := X) (H := H ++ L) ho ht hx hy (hget_own hk) hok hs hle
  rw [set_own] at this
  exact this
/-- What one's own block holds. -/
def ldL (L : Heap) (j off n : Nat) : Option (List AC) := match L[j]? with
  | some (some k) => if Nat.ble (off + n) k.cells.length then some ((k.cells.drop off).take n) else none
  | _ => none
theorem ld_own {j off n : Nat} {cs : List AC} (h : ldL L j off n = some cs) : ld X (H ++ L) (.l (H.length + j)) off n = some cs := by
  unfold ldL at h
  split at h
  · rename_i k hk
    split at h
    · rename_i hb
      unfold ld
      rw [hget_own hk]
      simp only [Nat.ble_eq] at hb
      simp only []
      rw [if_pos hb]
      exact h
    · cases h
  · cases h
theorem r_loadL {t : Nat} {x : Operand} {d : TD} {j off : Nat} {cs : List AC} {v : AV} (ho : o.op = .load t x) (ht : X.ty t = some d) (hx : opv X E x = some (.v (.c (.pt (.l (H.length + j)) off)))) (hl : ldL L j off d.size = some cs) (hv : ldv d cs = some v) : OS X o E (H ++ L) (some (.v v)) (H ++ L) :=
  r_load ho ht hx (ld_own hl) hv
theorem r_loadA {t : Nat} {x : Operand} {d : TD} {bd : Bid} {off : Nat} {cs : List AC} {v : AV} (ho : o.op = .load t x) (ht : X.ty t = some d) (hx : opv X E x = some (.v (.c (.pt bd off)))) (hl : ld X H bd off d.size = some cs) (hv : ldv d cs = some v) : OS X o E (H ++ L) (some (.v v)) (H ++ L) :=
  r_load ho ht hx (ld_app hl) hv
/-- A call of a function by its number: contract given for all memories. -/
theorem r_callF {f : FuncId} {args : List Operand} {ats : Array TypeId} {vs : List AV} {r : AT} {H' : Heap} (ho : o.op = .call { callee := .value (.func f), args := args.toArray, argTypes := ats }) (hv : opvs X E args = some vs) (hf : X.fn f = true)
    (h : ACalls X f vs H r H') : OS X o E H (some r) H' :=
  r_call (ps := []) ho rfl hv hf (by simpa [capt] using h)

/-- Ends. -/
theorem fin_r {rv : List ResultVar} {rs rs' : AT} {vs : List AV} (hr : resA X E (H ++ L) rv = some vs) (h' : resT vs = rs') (h : rs' = rs) (hi : rs.ids = []) : Fin X rv H [] rs .ret E (H ++ L) := fin0 hr (h'.trans h) hi
theorem fin_b {rv : List ResultVar} {b b' : Bool} (hr : resA X E (H ++ L) rv = some [.c (.s (.bool b))]) (h : b = b') : Fin X rv H [] (Vb b') .ret E (H ++ L) := by
  subst h; exact fin0 hr rfl rfl
theorem fin_i {rv : List ResultVar} {kk : IntKind} {b b' : Int} (hr : resA X E (H ++ L) rv = some [.c (.s (.int kk b))]) (h : b = b') : Fin X rv H [] (Vi kk b') .ret E (H ++ L) := by
  subst h; exact fin0 hr rfl rfl
theorem fin_s {rv : List ResultVar} {b b' : ByteArray} (hr : resA X E (H ++ L) rv = some [.c (.s (.string b))]) (h : b = b') : Fin X rv H [] (Vs b') .ret E (H ++ L) := by
  subst h; exact fin0 hr rfl rfl
/-- Joins: a stretch told by what it leaves. -/
theorem aw_mid (Em : Env) (Hm : Heap) {x y : Code} (h : AW X N S x E H (fun a E' H' => match a with | .normal => Sub Em E' ∧ H' = Hm | a => Q a E' H')) (h' : AW X N S y Em Hm Q) : AW X N S (.seq x y) E H Q :=
  aw_seq (aw_mono h fun a E' H' hq => by
    cases a with
    | normal => obtain ⟨h1, rfl⟩ := hq; exact aw_sub h1 h'
    | exit i => exact hq
    | ret => exact hq)
end
end Go.Aw
