/- Regions that draw their order, with reads that some writes pass by. -/
import Derived.Test.YtfdopoijhjbamaaDoorAwS
namespace Go.Aw
set_option linter.unusedVariables false
set_option linter.unusedSimpArgs false

/-- A run in which Kp is known of memory (p) until a write that does not keep it. Marks: (0, 2): a write that keeps Kp, (1, 2): another; 4: a read that rests on Kp alone. -/
inductive TrK (X : Cx) (N : FK) (ops : Array Oper) (Kp : Heap → Prop) : Bool → List Oper → Env → Heap → List (Nat × Nat) → Env → Heap → Prop
  | nil {p : Bool} {E : Env} {H : Heap} : TrK X N ops Kp p [] E H [] E H
  | pure {p : Bool} {o : Oper} {rest : List Oper} {E E' : Env} {H H' : Heap} {T : List (Nat × Nat)} {r : Option AT} (hd : dstOk N o = true) {g : Bool × Bool} (hg : gd ops o E = some g) (hgt : g.1 = g.2) (h : ∀ H, OS X o E H r H)
      (t : TrK X N ops Kp p rest (E.out o r) H T E' H') : TrK X N ops Kp p (o :: rest) E H ((0, 0) :: T) E' H'
  | mem {p : Bool} {o : Oper} {rest : List Oper} {E E' : Env} {H H' L : Heap} {T : List (Nat × Nat)} {r : Option AT} (hd : dstOk N o = true) {g : Bool × Bool} (hg : gd ops o E = some g) (hgt : g.1 = g.2) (h : OS X o E H r (H ++ L))
      (t : TrK X N ops Kp p rest (E.out o r) (H ++ L) T E' H') : TrK X N ops Kp p (o :: rest) E H ((0, 1) :: T) E' H'
  | keep {o : Oper} {rest : List Oper} {E E' : Env} {H H' H1 : Heap} {T : List (Nat × Nat)} {r : Option AT} (hd : dstOk N o = true) {g : Bool × Bool} (hg : gd ops o E = some g) (hgt : g.1 = g.2) (hl : H.length ≤ H1.length) (h : OS X o E H r H1) (hk : Kp H1)
      (t : TrK X N ops Kp true rest (E.out o r) H1 T E' H') : TrK X N ops Kp true (o :: rest) E H ((0, 2) :: T) E' H'
  | eff {p : Bool} {o : Oper} {rest : List Oper} {E E' : Env} {H H' H1 : Heap} {T : List (Nat × Nat)} {r : Option AT} (hd : dstOk N o = true) {g : Bool × Bool} (hg : gd ops o E = some g) (hgt : g.1 = g.2) (hl : H.length ≤ H1.length) (h : OS X o E H r H1)
      (t : TrK X N ops Kp false rest (E.out o r) H1 T E' H') : TrK X N ops Kp p (o :: rest) E H ((1, 2) :: T) E' H'
  | skip {p : Bool} {o : Oper} {rest : List Oper} {E E' : Env} {H H' : Heap} {T : List (Nat × Nat)} (hd : dstOk N o = true) {g : Bool × Bool} (hg : gd ops o E = some g) (hgt : g.1 = !g.2)
      (t : TrK X N ops Kp p rest (E.out o (some (.tu []))) H T E' H') : TrK X N ops Kp p (o :: rest) E H ((0, 3) :: T) E' H'
  | kept {p : Bool} {o : Oper} {rest : List Oper} {E E' : Env} {H H' : Heap} {T : List (Nat × Nat)} {r : Option AT} (hd : dstOk N o = true) {g : Bool × Bool} (hg : gd ops o E = some g) (hgt : g.1 = g.2) (hid : ∀ v, r = some v → v.ids = []) (h : ∀ H, Kp H → OS X o E H r H)
      (t : TrK X N ops Kp p rest (E.out o r) H T E' H') : TrK X N ops Kp p (o :: rest) E H ((0, 4) :: T) E' H'

theorem TrK.data {X : Cx} {N : FK} {ops : Array Oper} {Kp : Heap → Prop} (hKp : ∀ H R, Kp H → Kp (H ++ R)) {p : Bool} {l : List Oper} {E E' : Env} {H H' : Heap} {T : List (Nat × Nat)} (t : TrK X N ops Kp p l E H T E' H') (h0 : p = true → Kp H) :
    ∃ (Es : Nat → Env) (Hs : Nat → Heap) (rs : Nat → Option AT), Es 0 = E ∧ Hs 0 = H ∧ Es l.length = E' ∧ Hs l.length = H' ∧
      (∀ (i : Nat) o, l[i]? = some o → dstOk N o = true ∧ Es (i + 1) = (Es i).out o (rs i) ∧ One X ops o (Es i) (Hs i) (rs i) (Hs (i + 1)) ((T.map (·.2)).getD i 9) ∧ ((T.map (·.2)).getD i 9 = 4 → ∀ H, Kp H → OS X o (Es i) H (rs i) H)) ∧
      (∀ f, f ≤ l.length → p = true → Kp (Hs f) ∨ ∃ j, j < f ∧ T[j]? = some (1, 2)) := by
  induction t with
  | @nil p E H => exact ⟨fun _ => E, fun _ => H, fun _ => none, rfl, rfl, rfl, rfl, fun i o h => by simp at h, fun f hf hp => .inl (h0 hp)⟩
  | @pure p o rest E E' H H' T r hd g hg hgt h t ih =>
    obtain ⟨Es, Hs, rs, h1, h2, h3, h4, h5, h6⟩ := ih h0
    refine ⟨fun | 0 => E | i + 1 => Es i, fun | 0 => H | i + 1 => Hs i, fun | 0 => r | i + 1 => rs i, rfl, rfl, h3, h4, ?_, ?_⟩
    · intro i o' ho
      cases i with
      | zero => simp at ho; subst ho; exact ⟨hd, h1, by show One X ops o E H r (Hs 0) 0; rw [h2]; exact .pure hg hgt h, fun _ H _ => h H⟩
      | succ i => exact h5 i o' (by simpa using ho)
    · intro f hf hp
      cases f with
      | zero => exact .inl (h0 hp)
      | succ f =>
        rcases h6 f (by simpa using hf) hp with h | ⟨j, a, b⟩
        · exact .inl h
        · exact .inr ⟨j + 1, by omega, by simpa using b⟩
  | @mem p o rest E E' H H' L T r hd g hg hgt h t ih =>
    obtain ⟨Es, Hs, rs, h1, h2, h3, h4, h5, h6⟩ := ih (fun hp => hKp _ _ (h0 hp))
    refine ⟨fun | 0 => E | i + 1 => Es i, fun | 0 => H | i + 1 => Hs i, fun | 0 => r | i + 1 => rs i, rfl, rfl, h3, h4, ?_, ?_⟩
    · intro i o' ho
      cases i with
      | zero => simp at ho; subst ho; exact ⟨hd, h1, by show One X ops o E H r (Hs 0) 1; rw [h2]; exact .mem hg hgt h, fun e => by cases e⟩
      | succ i => exact h5 i o' (by simpa using ho)
    · intro f hf hp
      cases f with
      | zero => exact .inl (h0 hp)
      | succ f =>
        rcases h6 f (by simpa using hf) hp with h | ⟨j, a, b⟩
        · exact .inl h
        · exact .inr ⟨j + 1, by omega, by simpa using b⟩
  | @keep o rest E E' H H' H1 T r hd g hg hgt hl h hk t ih =>
    obtain ⟨Es, Hs, rs, h1, h2, h3, h4, h5, h6⟩ := ih (fun _ => hk)
    refine ⟨fun | 0 => E | i + 1 => Es i, fun | 0 => H | i + 1 => Hs i, fun | 0 => r | i + 1 => rs i, rfl, rfl, h3, h4, ?_, ?_⟩
    · intro i o' ho
      cases i with
      | zero => simp at ho; subst ho; exact ⟨hd, h1, by show One X ops o E H r (Hs 0) 2; rw [h2]; exact .eff hg hgt hl h, fun e => by cases e⟩
      | succ i => exact h5 i o' (by simpa using ho)
    · intro f hf hp
      cases f with
      | zero => exact .inl (h0 hp)
      | succ f =>
        rcases h6 f (by simpa using hf) rfl with h | ⟨j, a, b⟩
        · exact .inl h
        · exact .inr ⟨j + 1, by omega, by simpa using b⟩
  | @eff p o rest E E' H H' H1 T r hd g hg hgt hl h t ih =>
    obtain ⟨Es, Hs, rs, h1, h2, h3, h4, h5, h6⟩ := ih (fun e => by cases e)
    refine ⟨fun | 0 => E | i + 1 => Es i, fun | 0 => H | i + 1 => Hs i, fun | 0 => r | i + 1 => rs i, rfl, rfl, h3, h4, ?_, ?_⟩
    · intro i o' ho
      cases i with
      | zero => simp at ho; subst ho; exact ⟨hd, h1, by show One X ops o E H r (Hs 0) 2; rw [h2]; exact .eff hg hgt hl h, fun e => by cases e⟩
      | succ i => exact h5 i o' (by simpa using ho)
    · intro f hf hp
      cases f with
      | zero => exact .inl (h0 hp)
      | succ f => exact .inr ⟨0, by omega, rfl⟩
  | @skip p o rest E E' H H' T hd g hg hgt t ih =>
    obtain ⟨Es, Hs, rs, h1, h2, h3, h4, h5, h6⟩ := ih h0
    refine ⟨fun | 0 => E | i + 1 => Es i, fun | 0 => H | i + 1 => Hs i, fun | 0 => some (.tu []) | i + 1 => rs i, rfl, rfl, h3, h4, ?_, ?_⟩
    · intro i o' ho
      cases i with
      | zero => simp at ho; subst ho; exact ⟨hd, h1, by show One X ops o E H (some (.tu [])) (Hs 0) 3; rw [h2]; exact .skip hg hgt rfl, fun e => by cases e⟩
      | succ i => exact h5 i o' (by simpa using ho)
    · intro f hf hp
      cases f with
      | zero => exact .inl (h0 hp)
      | succ f =>
        rcases h6 f (by simpa using hf) hp with h | ⟨j, a, b⟩
        · exact .inl h
        · exact .inr ⟨j + 1, by omega, by simpa using b⟩
  | @kept p o rest E E' H H' T r hd g hg hgt hid h t ih =>
    obtain ⟨Es, Hs, rs, h1, h2, h3, h4, h5, h6⟩ := ih h0
    refine ⟨fun | 0 => E | i + 1 => Es i, fun | 0 => H | i + 1 => Hs i, fun | 0 => r | i + 1 => rs i, rfl, rfl, h3, h4, ?_, ?_⟩
    · intro i o' ho
      cases i with
      | zero => simp at ho; subst ho; exact ⟨hd, h1, by show One X ops o E H r (Hs 0) 4; rw [h2]; exact .kept hg hgt hid, fun _ => h⟩
      | succ i => exact h5 i o' (by simpa using ho)
    · intro f hf hp
      cases f with
      | zero => exact .inl (h0 hp)
      | succ f =>
        rcases h6 f (by simpa using hf) hp with h | ⟨j, a, b⟩
        · exact .inl h
        · exact .inr ⟨j + 1, by omega, by simpa using b⟩

/-- Reads that rest on Kp come before all writes that do not keep it. -/
def keptOk (ops : Array Oper) (T : List (Nat × Nat)) : Bool :=
  (List.range ops.size).all fun i => !Nat.beq ((T.map (·.2)).getD i 9) 4 || (List.range ops.size).all fun j => !(Nat.beq ((T.map (·.1)).getD j 0) 1) || ordB ops i j
def RK (X : Cx) (N : FK) (ops : Array Oper) (Kp : Heap → Prop) (chk : List (Nat × Nat) → Bool) (p : Bool) (l : List Oper) (E : Env) (H : Heap) (K : Env → Heap → Prop) : Prop :=
  ∃ T E' H', TrK X N ops Kp p l E H T E' H' ∧ chk T = true ∧ K E' H'

theorem aw_region_drawK {X : Cx} {N : FK} {S : St} {E : Env} {H : Heap} {id : Nat} {l : List Oper} {Q : APost} (Kp : Heap → Prop) (hKp : ∀ H R, Kp H → Kp (H ++ R)) (h0 : Kp H) (h : RK X N l.toArray Kp (fun T => drawOk l.toArray T && keptOk l.toArray T) true l E H (Q .normal)) : AW X N S (.region id l.toArray true) E H Q := by
  obtain ⟨T, E', H', h1, h2, h3⟩ := h
  simp only [Bool.and_eq_true] at h2
  obtain ⟨Es, Hs, rs, d1, d2, d3, d4, d5, d6⟩ := h1.data hKp (fun _ => h0)
  have r : Run X N l.toArray Es Hs rs (fun i => (T.map (·.2)).getD i 9) := ⟨fun i o ho => have p := d5 i o (by simpa using ho); ⟨p.1, p.2.1, p.2.2.1⟩, drawOk_spec h2.1, fun i o ho hm f hf hne => by
    have hin := (Array.getElem?_eq_some_iff.1 ho).1
    rcases d6 f (by simpa using hf) rfl with hk | ⟨j, hj, hT⟩
    · exact (d5 i o (by simpa using ho)).2.2.2 hm _ hk
    · have := List.all_eq_true.1 h2.2 i (List.mem_range.2 hin)
      rw [hm] at this
      simp only [Nat.beq_refl, Bool.not_true, Bool.false_or] at this
      have := List.all_eq_true.1 this j (List.mem_range.2 (by omega))
      have e1 : (T.map (·.1)).getD j 0 = 1 := by rw [List.getD_eq_getElem?_getD, List.getElem?_map, hT]; rfl
      have e2 : (T.map (·.2)).getD j 9 = 2 := by rw [List.getD_eq_getElem?_getD, List.getElem?_map, hT]; rfl
      rw [e1] at this
      rw [hne j hj e2] at this
      cases this⟩
  exact aw_of_run r d1 d2 d3 d4 h3

section
variable {X : Cx} {N : FK} {S : St} {ops : Array Oper} {Kp : Heap → Prop} {chk : List (Nat × Nat) → Bool} {p : Bool} {o : Oper} {rest : List Oper} {E : Env} {H L : Heap} {K : Env → Heap → Prop}
theorem rk_nil (hc : chk [] = true) (h : K E H) : RK X N ops Kp chk p [] E H K := ⟨[], E, H, .nil, hc, h⟩
theorem rk_pure {r : Option AT} (h : ∀ H, OS X o E H r H) (hd : dstOk N o = true) {g : Bool × Bool} (hg : gd ops o E = some g) (hgt : g.1 = g.2) (t : RK X N ops Kp (fun T => chk ((0, 0) :: T)) p rest (E.out o r) H K) : RK X N ops Kp chk p (o :: rest) E H K :=
  let ⟨T, E', H', h1, h2, h3⟩ := t; ⟨_, E', H', .pure hd hg hgt h h1, h2, h3⟩
theorem rk_read {r : Option AT} (h : OS X o E H r H) (hd : dstOk N o = true) {g : Bool × Bool} (hg : gd ops o E = some g) (hgt : g.1 = g.2) (t : RK X N ops Kp (fun T => chk ((0, 1) :: T)) p rest (E.out o r) H K) : RK X N ops Kp chk p (o :: rest) E H K :=
  let ⟨T, E', H', h1, h2, h3⟩ := t; ⟨_, E', H', .mem (L := []) hd hg hgt (by simpa using h) (by simpa using h1), h2, h3⟩
theorem rk_memL {r : Option AT} {Ln : Heap} (h : OS X o E (H ++ L) r (H ++ L ++ Ln)) (hd : dstOk N o = true) {g : Bool × Bool} (hg : gd ops o E = some g) (hgt : g.1 = g.2) (t : RK X N ops Kp (fun T => chk ((0, 1) :: T)) p rest (E.out o r) (H ++ (L ++ Ln)) K) : RK X N ops Kp chk p (o :: rest) E (H ++ L) K := by
  obtain ⟨T, E', H', h1, h2, h3⟩ := t
  exact ⟨_, E', H', .mem hd hg hgt h (by rw [List.append_assoc]; exact h1), h2, h3⟩
theorem rk_eff {r : Option AT} {H1 : Heap} (h : OS X o E H r H1) (hd : dstOk N o = true) {g : Bool × Bool} (hg : gd ops o E = some g) (hgt : g.1 = g.2) (hl : H.length ≤ H1.length) (t : RK X N ops Kp (fun T => chk ((1, 2) :: T)) false rest (E.out o r) H1 K) : RK X N ops Kp chk p (o :: rest) E H K :=
  let ⟨T, E', H', h1, h2, h3⟩ := t; ⟨_, E', H', .eff hd hg hgt hl h h1, h2, h3⟩
theorem rk_keep {r : Option AT} {H1 : Heap} (h : OS X o E H r H1) (hk : Kp H1) (hd : dstOk N o = true) {g : Bool × Bool} (hg : gd ops o E = some g) (hgt : g.1 = g.2) (hl : H.length ≤ H1.length) (t : RK X N ops Kp (fun T => chk ((0, 2) :: T)) true rest (E.out o r) H1 K) : RK X N ops Kp chk true (o :: rest) E H K :=
  let ⟨T, E', H', h1, h2, h3⟩ := t; ⟨_, E', H', .keep hd hg hgt hl h hk h1, h2, h3⟩
theorem rk_skip (hd : dstOk N o = true) {g : Bool × Bool} (hg : gd ops o E = some g) (hgt : g.1 = !g.2) (t : RK X N ops Kp (fun T => chk ((0, 3) :: T)) p rest (E.out o (some (.tu []))) H K) : RK X N ops Kp chk p (o :: rest) E H K :=
  let ⟨T, E', H', h1, h2, h3⟩ := t; ⟨_, E', H', .skip hd hg hgt h1, h2, h3⟩
theorem rk_kept {r : Option AT} (h : ∀ H, Kp H → OS X o E H r H) (hid : ∀ v, r = some v → v.ids = []) (hd : dstOk N o = true) {g : Bool × Bool} (hg : gd ops o E = some g) (hgt : g.1 = g.2) (t : RK X N ops Kp (fun T => chk ((0, 4) :: T)) p rest (E.out o r) H K) : RK X N ops Kp chk p (o :: rest) E H K :=
  let ⟨T, E', H', h1, h2, h3⟩ := t; ⟨_, E', H', .kept hd hg hgt hid h h1, h2, h3⟩
theorem rk_split {b c : Bool} (hg : gd ops o E = some (b, c)) (h1 : b = true → RK X N ops Kp chk p (o :: rest) E H K) (h2 : b = false → RK X N ops Kp chk p (o :: rest) E H K) : RK X N ops Kp chk p (o :: rest) E H K := by
  cases hb : b with
  | true => exact h1 hb
  | false => exact h2 hb
/-- A load that rests on Kp alone. -/
theorem r_loadK {t : Nat} {x : Operand} {d : TD} {bd : Bid} {off : Nat} {cs : List AC} {v : AV} (ho : o.op = .load t x) (ht : X.ty t = some d) (hx : opv X E x = some (.v (.c (.pt bd off)))) (hv : ldv d cs = some v) : ∀ H, ld X H bd off d.size = some cs → OS X o E H (some (.v v)) H := fun H hl => by
  have := r_loadA (L := []) ho ht hx hl hv
  simpa using this
end
end Go.Aw
