/- Functions that write into memory that they were given. -/
import Derived.Test.YtfdopoijhjbamaaDoorAwS
namespace Go.Aw
set_option linter.unusedVariables false
set_option linter.unusedSimpArgs false
section
variable {X : Cx} {N : FK} {S : St} {ops : Array Oper} {chk : List (Nat × Nat) → Bool} {k : Nat} {o : Oper} {rest : List Oper} {E : Env} {H L L1 : Heap} {K : Env → Heap → Prop} {Q : APost}

theorem set_same {α : Type} {L : List α} {j : Nat} {b : α} (h : L[j]? = some b) : L.set j b = L := by
  apply List.ext_getElem?
  intro i
  by_cases e : j = i
  · subst e
    have := (List.getElem?_eq_some_iff.1 h).1
    rw [List.getElem?_set_self this, h]
  · rw [List.getElem?_set_ne e]
theorem set_at {α : Type} {L : List α} {j : Nat} {b c : α} (h : L[j]? = some b) : (L.set j c)[j]? = some c := List.getElem?_set_self (List.getElem?_eq_some_iff.1 h).1

theorem wf_set {ι : Inj} {j : Nat} {b : Blk} (hc : ∀ c ∈ b.cells, c.ids = []) (hj : j < L.length) (h : WF X ι (H ++ L)) : WF X ι (H ++ L.set j (some b)) := by
  intro bd M k hb hk c hcc
  rw [← set_own] at hk
  rw [← set_own, List.length_set]
  by_cases e : bd = .l (H.length + j)
  · subst e
    rw [hget_set_same (by simp; omega)] at hk
    cases hk
    intro m hm; rw [hc c hcc] at hm; cases hm
  · rw [hget_set_ne e] at hk
    exact h bd M k hb hk c hcc

/-- A function that writes one block that it was given. -/
theorem acallsM {f : FuncId} {fn : Func} {c : Code} {args : List AV} {j : Nat} {b0 : Option Blk} {b : Blk} {rs : AT} (hj : L[j]? = some b0) (hpl : ∀ c ∈ b.cells, c.ids = []) (hf : X.P.funcs[f]? = some fn) (hb : fn.body = some c) (hlen : Nat.ble args.length fn.ntmps = true)
    (h : ∀ S, S.H = H ++ L → WF X S.ι (H ++ L) → AW X ⟨fn.ntmps, []⟩ S c (argE 0 args) (H ++ L) (Fin X fn.results.toList (H ++ L.set j (some b)) [] rs)) : ACalls X f args (H ++ L) rs (H ++ L.set j (some b)) := by
  have hlt := (List.getElem?_eq_some_iff.1 hj).1
  have := acalls_of (H := H ++ L) (H1 := H ++ L.set j (some b)) (Ln := []) hf hb hlen (by simp) (fun ι hw => wf_set hpl hlt hw) (fun S hS hw => h S hS hw)
  simpa using this
theorem fin_M {rv : List ResultVar} {H1 J : Heap} {rs : AT} {vs : List AV} (e : H = H1 ++ J) (hr : resA X E H rv = some vs) (h : resT vs = rs) (hi : rs.ids = []) : Fin X rv H1 [] rs .ret E H := by
  subst e; exact fin0 hr h hi
theorem fin_iM {rv : List ResultVar} {H1 J : Heap} {kk : IntKind} {b b' : Int} (e : H = H1 ++ J) (hr : resA X E H rv = some [.c (.s (.int kk b))]) (h : b = b') : Fin X rv H1 [] (Vi kk b') .ret E H := by
  subst h; exact fin_M e hr rfl rfl
/-- A call of a function held as a value. -/
theorem r_callV {f : FuncId} {x : Operand} {args : List Operand} {ats : Array TypeId} {vs : List AV} {ps : List (Bid × Nat)} {r : AT} {H' : Heap} (ho : o.op = .call { callee := .value x, args := args.toArray, argTypes := ats }) (hx : opv X E x = some (.v (.c (.fn f ps)))) (hv : opvs X E args = some vs) (hf : X.fn f = true)
    (h : ACalls X f (vs ++ capt ps) H r H') : OS X o E H (some r) H' := r_call ho hx hv hf h
/-- Memory told otherwise. -/
theorem rr_effE {r : Option AT} {H1 H2 : Heap} (h : OS X o E H r H1) (e : H1 = H2) (hd : dstOk N o = true) {g : Bool × Bool} (hg : gd ops o E = some g) (hgt : g.1 = g.2) (hl : H.length ≤ H2.length) (t : RR X N ops (fun T => chk ((k, 2) :: T)) (k + 1) rest (E.out o r) H2 K) : RR X N ops chk k (o :: rest) E H K := by
  subst e; exact rr_eff h hd hg hgt hl t
theorem renB_low {n : Nat} {r : List Nat} {b : Bid} (h : ∀ m, b = .l m → m < n) : renB n r b = b := by
  cases b with
  | g g => rfl
  | l m => exact renB_lt r (h m rfl)
theorem AC.ren_low {n : Nat} {r : List Nat} {c : AC} (h : Lo n c.ids) : c.ren n r = c := by
  cases c with
  | sl b => simp only [AC.ren]; rw [renB_low (fun m e => h m (by simp [AC.ids, e]))]
  | pt b => simp only [AC.ren]; rw [renB_low (fun m e => h m (by simp [AC.ids, e]))]
  | fn f ps =>
    simp only [AC.ren]
    congr 1
    have : ∀ p ∈ ps, (renB n r p.1, p.2) = p := fun p hp => by
      rw [renB_low (fun m e => h m (by simp only [AC.ids, List.mem_map]; exact ⟨p, hp, e⟩))]
    rw [List.map_congr_left this]; simp
  | _ => rfl
theorem AV.ren_low {n : Nat} {r : List Nat} {c : AV} (h : Lo n c.ids) : c.ren n r = c := by
  cases c with
  | c c => simp only [AV.ren]; rw [AC.ren_low h]
  | ag cs =>
    simp only [AV.ren]
    congr 1
    have : ∀ c ∈ cs, AC.ren n r c = c := fun c hc => AC.ren_low (fun m hm => h m (by simp only [AV.ids, List.mem_flatMap]; exact ⟨c, hc, hm⟩))
    rw [List.map_congr_left this]; simp
theorem AT.ren_low {n : Nat} {r : List Nat} {c : AT} (h : Lo n c.ids) : c.ren n r = c := by
  cases c with
  | v c => simp only [AT.ren]; rw [AV.ren_low h]
  | tu cs =>
    simp only [AT.ren]
    congr 1
    have : ∀ c ∈ cs, AV.ren n r c = c := fun c hc => AV.ren_low (fun m hm => h m (by simp only [AT.ids, List.mem_flatMap]; exact ⟨c, hc, hm⟩))
    rw [List.map_congr_left this]; simp
/-- A function that hands on what it was given. -/
theorem fin_lo {rv : List ResultVar} {rs : AT} {vs : List AV} (hr : resA X E (H ++ L) rv = some vs) (h : resT vs = rs) (hlo : Lo H.length rs.ids) : Fin X rv H [] rs .ret E (H ++ L) :=
  ⟨.inl rfl, L, [], vs, rfl, mv_nil, hr, by rw [AT.ren_low hlo]; exact h, by simpa using hlo⟩
theorem Rd.lo {α : Type} {sz : Nat} {enc : α → List AC} {v : AC} {xs : List α} (h : Rd X H sz enc v xs) : Lo H.length v.ids := by
  intro m hm
  cases v with
  | sl b off n lo ex =>
    simp only [AC.ids, List.mem_singleton] at hm
    subst hm
    obtain ⟨_, h1, _⟩ := h
    unfold ld at h1
    split at h1
    · rename_i k hk; exact hget_lt hk
    · cases h1
  | ns => simp [AC.ids] at hm
  | em => simp [AC.ids] at hm
  | _ => cases h
/-- What holds here, told anew. -/
theorem aw_here (Em : Env) (Lm : Heap) {c : Code} (hE : Sub Em E) (hL : L = Lm) (h : AW X N S c Em (H ++ Lm) Q) : AW X N S c E (H ++ L) Q := by
  subst hL; exact aw_sub hE h
theorem r_litL {t el : Nat} {len : Nat} {parts : List (Nat × Operand)} {s1 b1 : Nat} {zz1 : List ZC} {d : TD} {vs : List AV} {cs : List AC} (ho : o.op = .buildSlice t len parts.toArray) (ht : X.ty t = some ⟨.slice el, s1, b1, zz1⟩) (he : X.ty el = some d)
    (hv : opvs X E (parts.map (·.2)) = some vs) (hs : Nat.ble (len * d.size) 16777216 = true) (hp : Nat.blt 0 d.size = true) (hf : fillA (fun i => some (i * d.size, d.size)) (zrow (d.zero.map ZC.ac) (len * d.size)) ((parts.map (·.1)).zip vs) = some cs) :
    OS X o E (H ++ L) (some (.v (.c (.sl (.l (H.length + L.length)) 0 len len true)))) (H ++ L ++ [some ⟨cs, true, d.size⟩]) := by
  have := r_lit (X := X) (E := E) (H := H ++ L) ho ht he hv hs hp hf
  rw [List.length_append] at this
  exact this
theorem ld_sub {bd : Bid} {off n m k : Nat} {cs : List AC} (h : ld X H bd off n = some cs) (hk : k + m ≤ n) : ld X H bd (off + k) m = some ((cs.drop k).take m) := by
  unfold ld at h ⊢
  split at h
  · rename_i b hb
    split at h
    · rename_i hle
      cases h
      rw [if_pos (by omega), List.drop_take, List.take_take, List.drop_drop]
      congr 2
      omega
    · cases h
  · cases h
theorem ldL_last {b : Blk} {off n : Nat} (h : Nat.ble (off + n) b.cells.length = true) : ldL (L ++ [some b]) L.length off n = some ((b.cells.drop off).take n) := by
  unfold ldL
  rw [List.getElem?_append_right (Nat.le_refl _), Nat.sub_self]
  simp only [List.getElem?_cons_zero, h, if_true]
theorem at_left {α : Type} {L : List α} {j : Nat} {b c : α} (h : L[j]? = some b) : (L ++ [c])[j]? = some b := by
  rw [List.getElem?_append_left (List.getElem?_eq_some_iff.1 h).1, h]
theorem set_left {α : Type} {L : List α} {j : Nat} {b c d : α} (h : L[j]? = some b) : (L ++ [c]).set j d = L.set j d ++ [c] := List.set_append_left _ _ (List.getElem?_eq_some_iff.1 h).1
theorem r_storeLast {t : Nat} {x y : Operand} {d : TD} {off : Nat} {v : AV} {b : Blk} (ho : o.op = .store t x y) (ht : X.ty t = some d) (hx : opv X E x = some (.v (.c (.pt (.l (H.length + L.length)) off)))) (hy : opv X E y = some (.v v)) (hok : b.own = true)
    (hs : v.cells.length = d.size) (hle : off + v.cells.length ≤ b.cells.length) : OS X o E (H ++ (L ++ [some b])) none (H ++ (L ++ [some ⟨lput b.cells off v.cells, b.own, b.esz⟩])) := by
  have hk : (L ++ [some b])[L.length]? = some (some b) := by rw [List.getElem?_append_right (Nat.le_refl _), Nat.sub_self]; rfl
  have := r_storeL (X := X) (H := H) ho ht hx hy hk hok hs hle
  rw [List.set_append_right _ _ (Nat.le_refl _), Nat.sub_self] at this
  exact this
end
/-- Numbers that go up by one. -/
def mk (k : Int) (n : Nat) : List Int := (List.range n).map fun (i : Nat) => k + (i : Int)
theorem mk_length (k : Int) (n : Nat) : (mk k n).length = n := by simp [mk]
theorem mk_get {k : Int} {n i : Nat} (h : i < n) : (mk k n)[i]? = some (k + i) := by simp [mk, h]
theorem mk_succ (k : Int) (n : Nat) : mk k (n + 1) = mk k n ++ [k + (n : Int)] := by simp [mk, List.range_succ]
theorem mk_step {k : Int} {i : Nat} {xs : List Int} (h : i < xs.length) : (mk k i ++ xs.drop i).set i (k + (i : Int)) = mk k (i + 1) ++ xs.drop (i + 1) := by
  rw [List.set_append_right _ _ (by rw [mk_length]; omega), mk_length, Nat.sub_self, mk_succ, List.append_assoc]
  congr 1
  rw [List.drop_eq_getElem_cons h]
  rfl
end Go.Aw
