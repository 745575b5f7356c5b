/- Ends with new memory; rows of one's own as lists. -/
import Derived.Test.YtfdopoijhjbamaaDoorAwR
namespace Go.Aw
set_option linter.unusedVariables false
set_option linter.unusedSimpArgs false

theorem AC.ren_plain {c : AC} (h : c.ids = []) (n : Nat) (r : List Nat) : c.ren n r = c := by
  cases c with
  | sl => simp [AC.ids] at h
  | pt => simp [AC.ids] at h
  | fn f ps => simp only [AC.ids, List.map_eq_nil_iff] at h; subst h; rfl
  | _ => rfl
theorem ren_plains {cs : List AC} (h : ∀ c ∈ cs, c.ids = []) (n : Nat) (r : List Nat) : cs.map (AC.ren n r) = cs := by
  have : ∀ c ∈ cs, AC.ren n r c = c := fun c hc => c.ren_plain (h c hc) n r
  rw [List.map_congr_left this]; simp

theorem mv_nil {n : Nat} {L : Heap} : Mv n [] L [] := ⟨rfl, List.nodup_nil, fun j k h => by simp at h, fun j k h => by simp at h⟩
/-- One block of plain cells is kept. -/
theorem mv_one {n i : Nat} {L : Heap} {k : Blk} (h : L[i]? = some (some k)) (hc : ∀ c ∈ k.cells, c.ids = []) : Mv n [i] L [some k] := by
  refine ⟨rfl, by simp, fun j k' hj => ?_, fun j k' hj => ?_⟩
  · cases j with
    | zero => simp at hj; subst hj; exact ⟨i, k, rfl, h, rfl, id, (ren_plains hc _ _).symm⟩
    | succ j => simp at hj
  · cases j with
    | zero => simp at hj; subst hj; intro c hcc; rw [Lo]; intro m hm; rw [hc c hcc] at hm; cases hm
    | succ j => simp at hj

section
variable {X : Cx} {N : FK} {S : St} {ops : Array Oper} {chk : List (Nat × Nat) → Bool} {k : Nat} {o : Oper} {rest : List Oper} {E : Env} {H L : Heap} {K : Env → Heap → Prop} {Q : APost}

theorem fin_mv (r : List Nat) {rv : List ResultVar} {Ln : Heap} {rs : AT} {vs : List AV} (hr : resA X E (H ++ L) rv = some vs) (m : Mv H.length r L Ln) (h : resT vs = rs.ren H.length r) (hlo : Lo (H.length + Ln.length) rs.ids) : Fin X rv H Ln rs .ret E (H ++ L) :=
  ⟨.inl rfl, L, r, vs, rfl, m, hr, h, hlo⟩
/-- A function that leaves new memory. -/
theorem acallsN {f : FuncId} {fn : Func} {c : Code} {args : List AV} {Ln : Heap} {rs : AT} (hf : X.P.funcs[f]? = some fn) (hb : fn.body = some c) (hlen : Nat.ble args.length fn.ntmps = true)
    (h : ∀ S, S.H = H → WF X S.ι H → AW X ⟨fn.ntmps, []⟩ S c (argE 0 args) (H ++ []) (Fin X fn.results.toList H Ln rs)) : ACalls X f args H rs (H ++ Ln) :=
  acalls_of (H1 := H) (Ln := Ln) hf hb hlen rfl (fun _ h => h) (fun S hS hw => by have := h S hS hw; simpa using this)

/-! Rows as lists -/
theorem zrow_one (a : AC) (n : Nat) : zrow [a] n = List.replicate n a := by
  unfold zrow
  apply List.ext_getElem?
  intro i
  rcases Nat.lt_or_ge i n with h | h
  · simp [h, Nat.mod_one]
  · simp [h]
theorem zrow_flat {α : Type} {enc : α → List AC} {z : α} {sz : Nat} (hs : (enc z).length = sz) (hp : 0 < sz) : ∀ n : Nat, zrow (enc z) (n * sz) = (List.replicate n z).flatMap enc
  | 0 => by simp [zrow]
  | n + 1 => by
    have ih := zrow_flat hs hp n
    rw [List.replicate_succ', List.flatMap_append, ← ih]
    apply List.ext_getElem?
    intro i
    unfold zrow
    rw [Nat.add_mul, Nat.one_mul]
    rcases Nat.lt_or_ge i (n * sz) with h | h
    · rw [List.getElem?_append_left (by simpa using h)]
      simp [h, show i < n * sz + sz by omega]
    · rw [List.getElem?_append_right (by simpa using h)]
      simp only [List.length_map, List.length_range, List.flatMap_cons, List.flatMap_nil, List.append_nil]
      rcases Nat.lt_or_ge i (n * sz + sz) with h' | h'
      · obtain ⟨q, rfl⟩ : ∃ q, i = n * sz + q := ⟨i - n * sz, by omega⟩
        have hm : (n * sz + q) % sz = q := by
          rw [Nat.add_comm, Nat.add_mul_mod_self_right, Nat.mod_eq_of_lt (by omega)]
        have hl : q < (enc z).length := by omega
        have e : n * sz + q - n * sz = q := by omega
        simp only [h', List.getElem?_map, List.getElem?_range, Option.map_some, hs, hm, e, List.getD_eq_getElem?_getD]
        rw [List.getElem?_eq_getElem hl]; rfl
      · have : (enc z).length ≤ i - n * sz := by omega
        simp [show ¬ i < n * sz + sz by omega, List.getElem?_eq_none this]
theorem lput_flat {α : Type} {enc : α → List AC} {sz : Nat} (hs : ∀ x, (enc x).length = sz) (x : α) : ∀ (ys : List α) (i : Nat), i < ys.length → lput (ys.flatMap enc) (i * sz) (enc x) = (ys.set i x).flatMap enc
  | [], i, h => by simp at h
  | y :: ys, 0, h => by
    have e : sz = (enc y).length := (hs y).symm
    simp only [lput, Nat.zero_mul, List.take_zero, List.nil_append, Nat.zero_add, List.set_cons_zero, List.flatMap_cons, hs x]
    rw [e, List.drop_left]
  | y :: ys, i + 1, h => by
    have ih := lput_flat hs x ys i (by simpa using h)
    have e : (enc y).length = sz := hs y
    simp only [List.flatMap_cons, List.set_cons_succ, ← ih, lput, hs x]
    rw [Nat.add_mul, Nat.one_mul]
    rw [List.take_append, List.drop_append]
    rw [List.take_of_length_le (by omega), List.drop_eq_nil_of_le (by omega), e]
    rw [show i * sz + sz - sz = i * sz by omega, show i * sz + sz + sz - sz = i * sz + sz by omega]
    simp
theorem take_set {α : Type} {z x : α} {xs : List α} {i : Nat} (h : xs[i]? = some x) : (xs.take i ++ List.replicate (xs.length - i) z).set i x = xs.take (i + 1) ++ List.replicate (xs.length - (i + 1)) z := by
  have hlt := (List.getElem?_eq_some_iff.1 h).1
  rw [List.set_append_right _ _ (by simp; omega)]
  rw [List.take_add_one, h, List.append_assoc]
  congr 1
  rw [List.length_take, Nat.min_eq_left (by omega), Nat.sub_self]
  rw [show xs.length - i = (xs.length - (i + 1)) + 1 by omega, List.replicate_succ]
  rfl
theorem flat_plain {α : Type} {enc : α → List AC} (h : ∀ x, ∀ c ∈ enc x, c.ids = []) (xs : List α) : ∀ c ∈ xs.flatMap enc, c.ids = [] := by
  intro c hc
  obtain ⟨x, _, hx⟩ := List.mem_flatMap.1 hc
  exact h x c hx

/-- One's own row reads as its list. -/
theorem Rd.own {α : Type} {sz : Nat} {enc : α → List AC} {j n lo z : Nat} {ex ow : Bool} {ys : List α} (hs : ∀ x, (enc x).length = sz) (h : L[j]? = some (some ⟨ys.flatMap enc, ow, z⟩)) (hn : n = ys.length) : Rd X (H ++ L) sz enc (.sl (.l (H.length + j)) 0 n lo ex) ys := by
  refine ⟨hn, ?_, hs⟩
  subst hn
  unfold ld
  rw [hget_own h]
  have := flatMap_len hs ys
  simp only [Nat.zero_add]
  rw [if_pos (by rw [this]; exact Nat.le_refl _), List.drop_zero, ← this, List.take_length]
/-- A cell of one's own row is written. -/
theorem r_storeR {α : Type} {t : Nat} {x y : Operand} {d : TD} {j i z sz : Nat} {v : AV} {enc : α → List AC} {ys : List α} {e : α} (ho : o.op = .store t x y) (ht : X.ty t = some d) (hx : opv X E x = some (.v (.c (.pt (.l (H.length + j)) (0 + i * sz))))) (hy : opv X E y = some (.v v)) (hk : L[j]? = some (some ⟨ys.flatMap enc, true, z⟩))
    (hv : v.cells = enc e) (hs : ∀ x, (enc x).length = sz) (hd : d.size = sz) (hi : i < ys.length) : OS X o E (H ++ L) none (H ++ L.set j (some ⟨(ys.set i e).flatMap enc, true, z⟩)) := by
  have hle : 0 + i * sz + v.cells.length ≤ (ys.flatMap enc).length := by
    rw [hv, hs, flatMap_len hs]
    have : (i + 1) * sz ≤ ys.length * sz := Nat.mul_le_mul_right _ hi
    rw [Nat.add_mul, Nat.one_mul] at this
    omega
  have := r_storeL (X := X) (H := H) ho ht hx hy hk rfl (by rw [hv, hs, hd]) hle
  simp only [Nat.zero_add] at this
  rw [hv, lput_flat hs e ys i hi] at this
  exact this
theorem r_makeR {α : Type} {enc : α → List AC} {z : α} {t el : Nat} {x : Operand} {s1 b1 : Nat} {zz1 : List ZC} {d : TD} {n : Nat} (ho : o.op = .makeSlice t x x) (ht : X.ty t = some ⟨.slice el, s1, b1, zz1⟩) (he : X.ty el = some d) (hx : opv X E x = some (I64 (n : Int)))
    (hb : d.bytes * n ≤ 281474976710656) (hm : n ≤ 4611686018427387904) (hz : d.zero.map ZC.ac = enc z) (hs : (enc z).length = d.size) (hp : Nat.blt 0 d.size = true) :
    OS X o E (H ++ L) (some (.v (.c (.sl (.l (H.length + L.length)) 0 n n true)))) (H ++ L ++ [some ⟨(List.replicate n z).flatMap enc, true, d.size⟩]) := by
  have := r_make (X := X) (E := E) (H := H ++ L) ho ht he hx hx (by omega) (by omega) (by omega) hp
  rw [hz, List.length_append] at this
  rw [← zrow_flat hs (by simpa using hp)]
  exact this
theorem resA_nil : resA X E H [] = some [] := rfl
theorem resA_tmp {t : Nat} {v : AV} {rs : List ResultVar} {vs : List AV} (h : E.get t = some (.v v)) (hr : resA X E H rs = some vs) : resA X E H (.tmp t :: rs) = some (v :: vs) := by
  simp only [resA, h, hr]
theorem resA_cell {p t j off : Nat} {d : TD} {cs : List AC} {v : AV} {rs : List ResultVar} {vs : List AV} (hp : E.get p = some (.v (.c (.pt (.l (H.length + j)) off)))) (ht : X.ty t = some d) (hl : ldL L j off d.size = some cs) (hv : ldv d cs = some v) (hr : resA X E (H ++ L) rs = some vs) :
    resA X E (H ++ L) (.cell p t :: rs) = some (v :: vs) := by
  simp only [resA, hp, ht, hr, ld_own hl, hv]
theorem ty_bool {t a b : Nat} {z : List ZC} (h : X.ty t = some ⟨.bool, a, b, z⟩) : X.P.underlying t = some .bool := by
  have := (ty_split h).2
  simp only [tkOk] at this
  split at this
  · rename_i he; exact he
  · cases this
theorem equalIn_slnil {P : Program} {w : World} (d : Nat) {t e : TypeId} (h : P.underlying t = some (.slice e)) (ad : Addr) (n c : Nat) : (Op.equalIn (d + 1) t (.slice (some ad) n c) (.slice none 0 0)).run P w = .ok false w := by
  simp [Op.equalIn, run_underlying h]
theorem equal_slnil {P : Program} {w : World} {t e : TypeId} (h : P.underlying t = some (.slice e)) (ad : Addr) (n c : Nat) : (Op.equal t (.slice (some ad) n c) (.slice none 0 0)).run P w = .ok false w := equalIn_slnil 9999 h ad n c
theorem equalIn_bool {P : Program} {w : World} (d : Nat) {t : TypeId} (h : P.underlying t = some .bool) (a b : Bool) : (Op.equalIn (d + 1) t (.bool a) (.bool b)).run P w = .ok (a == b) w := by
  simp [Op.equalIn, run_underlying h]
theorem equal_bool {P : Program} {w : World} {t : TypeId} (h : P.underlying t = some .bool) (a b : Bool) : (Op.equal t (.bool a) (.bool b)).run P w = .ok (a == b) w := equalIn_bool 9999 h a b
theorem r_slnil {op : BinOp} {t u s1 b1 el : Nat} {z1 : List ZC} {x y : Operand} {off n lo : Nat} {bd : Bid} {ex : Bool} (hop : op = .eql ∨ op = .neq) (ho : o.op = .binOp op t x y u) (ht : X.ty t = some ⟨.slice el, s1, b1, z1⟩) (hx : opv X E x = some (.v (.c (.sl bd off n lo ex)))) (hy : opv X E y = some (.v (.c .ns))) (H : Heap) :
    OS X o E H (some (Vb (match op with | .eql => false | _ => true))) H :=
  os_val fun ι ac w hi hr => by
    obtain ⟨L, c, hL, e1, _⟩ := hr x (by simp [ho, Op.operands]) _ hx
    have e2 : ac.eval y = .slice none 0 0 := hr y (by simp [ho, Op.operands]) _ hy
    rcases hop with rfl | rfl
    · refine ⟨.bool false, ?_, rfl, rfl⟩
      simp [execOp, ho, e1, e2, eqGuard, binOp, equal_slnil (ty_slice ht)]
    · refine ⟨.bool true, ?_, rfl, rfl⟩
      simp [execOp, ho, e1, e2, eqGuard, binOp, equal_slnil (ty_slice ht)]
theorem r_bbin {op : BinOp} {t u s1 b1 : Nat} {z1 : List ZC} {x y : Operand} {a b : Bool} (hop : op = .eql ∨ op = .neq) (ho : o.op = .binOp op t x y u) (ht : X.ty t = some ⟨.bool, s1, b1, z1⟩) (hx : opv X E x = some (Vb a)) (hy : opv X E y = some (Vb b)) (H : Heap) :
    OS X o E H (some (Vb (match op with | .eql => a == b | _ => a != b))) H :=
  os_val fun ι ac w hi hr => by
    obtain ⟨e1, _⟩ : ac.eval x = .bool a ∧ _ := hr x (by simp [ho, Op.operands]) _ hx
    obtain ⟨e2, _⟩ : ac.eval y = .bool b ∧ _ := hr y (by simp [ho, Op.operands]) _ hy
    rcases hop with rfl | rfl
    · refine ⟨.bool (a == b), ?_, rfl, rfl⟩
      simp [execOp, ho, e1, e2, eqGuard, binOp, equal_bool (ty_bool ht)]
    · refine ⟨.bool (a != b), ?_, rfl, rfl⟩
      simp [execOp, ho, e1, e2, eqGuard, binOp, equal_bool (ty_bool ht), bne]

/-- What an append takes from a row that reads as a list. -/
theorem src_R {α : Type} {enc : α → List AC} {sz : Nat} {v : AC} {xs : List α} (h : Rd X H sz enc v xs) : src X H sz (.v (.c v)) = some (xs.length, xs.flatMap enc) := by
  cases v with
  | ns => cases h; rfl
  | em => cases h; rfl
  | sl bd off n lo ex => obtain ⟨rfl, h1, _⟩ := h; simp only [src, h1, Option.map_some]
  | _ => cases h
theorem r_litE {α : Type} {enc : α → List AC} {t el : Nat} {s1 b1 : Nat} {zz1 : List ZC} {d : TD} (ho : o.op = .buildSlice t 0 #[]) (ht : X.ty t = some ⟨.slice el, s1, b1, zz1⟩) (he : X.ty el = some d) (hp : Nat.blt 0 d.size = true) :
    OS X o E (H ++ L) (some (.v (.c (.sl (.l (H.length + L.length)) 0 0 0 true)))) (H ++ L ++ [some ⟨([] : List α).flatMap enc, true, d.size⟩]) := by
  have := r_lit (X := X) (E := E) (H := H ++ L) (parts := []) (vs := []) (cs := []) ho ht he rfl (by simp) hp (by simp [zrow, fillA])
  rw [List.length_append] at this
  exact this
/-- A list is put behind one's own row. -/
theorem r_appR {α : Type} {enc : α → List AC} {t el j n lo : Nat} {ex : Bool} {x y : Operand} {s1 b1 : Nat} {zz1 : List ZC} {d : TD} {v : AC} {ys zs : List α} (ho : o.op = .call { callee := .builtin .append, args := #[x, y], argTypes := #[t, t] }) (ht : X.ty t = some ⟨.slice el, s1, b1, zz1⟩) (he : X.ty el = some d)
    (hx : opv X E x = some (.v (.c (.sl (.l (H.length + j)) 0 n lo ex)))) (hy : opv X E y = some (.v (.c v))) (hk : L[j]? = some (some ⟨ys.flatMap enc, true, d.size⟩)) (hn : n = ys.length) (hs : ∀ x, (enc x).length = d.size) (hr : Rd X (H ++ L) d.size enc v zs)
    (hb : (ys.length + zs.length) * d.bytes ≤ 140737488355328) (h63 : ys.length + zs.length ≤ 4611686018427387904) (hp : Nat.blt 0 d.size = true := by rfl) :
    OS X o E (H ++ L) (some (.v (.c (.sl (.l (H.length + L.length)) 0 (ys.length + zs.length) (ys.length + zs.length) false)))) (H ++ (L.set j none ++ [some ⟨(ys ++ zs).flatMap enc, true, d.size⟩])) := by
  subst hn
  have hown := Rd.own (X := X) (H := H) (L := L) (lo := ys.length) (ex := true) hs hk rfl
  have := r_app_own (X := X) (E := E) (H := H ++ L) (old := ys.flatMap enc) ho ht he hx hy (src_R hr) (hget_own hk) rfl rfl hown.2.1 hb (by simp only [maxLen]; omega) hp
  rw [set_own, List.append_assoc, List.length_append, ← List.flatMap_append] at this
  exact this
end
end Go.Aw
