/- Regions that draw their order: told in the text's order, with a check that no order tells them apart. -/
import Derived.Test.YtfdopoijhjbamaaDoorAwM
import Derived.Orders
namespace Go.Aw
set_option linter.unusedVariables false
set_option linter.unusedSimpArgs false

/-- What a run says of one operation. -/
inductive One (X : Cx) (ops : Array Oper) (o : Oper) (E : Env) (H : Heap) (r : Option AT) : Heap → Nat → Prop
  | pure {g : Bool × Bool} (hg : gd ops o E = some g) (hgt : g.1 = g.2) (h : ∀ H, OS X o E H r H) : One X ops o E H r H 0
  | mem {g : Bool × Bool} {L : Heap} (hg : gd ops o E = some g) (hgt : g.1 = g.2) (h : OS X o E H r (H ++ L)) : One X ops o E H r (H ++ L) 1
  | eff {g : Bool × Bool} {H1 : Heap} (hg : gd ops o E = some g) (hgt : g.1 = g.2) (hl : H.length ≤ H1.length) (h : OS X o E H r H1) : One X ops o E H r H1 2
  | skip {g : Bool × Bool} (hg : gd ops o E = some g) (hgt : g.1 = !g.2) (hr : r = some (.tu [])) : One X ops o E H r H 3
  | kept {g : Bool × Bool} (hg : gd ops o E = some g) (hgt : g.1 = g.2) (hid : ∀ v, r = some v → v.ids = []) : One X ops o E H r H 4

theorem Tr.data {X : Cx} {N : FK} {ops : Array Oper} {k : Nat} {l : List Oper} {E E' : Env} {H H' : Heap} {T : List (Nat × Nat)} (t : Tr X N ops k l E H T E' H') :
    ∃ (Es : Nat → Env) (Hs : Nat → Heap) (rs : Nat → Option AT), Es 0 = E ∧ Hs 0 = H ∧ Es l.length = E' ∧ Hs l.length = H' ∧
      ∀ (i : Nat) o, l[i]? = some o → dstOk N o = true ∧ Es (i + 1) = (Es i).out o (rs i) ∧ One X ops o (Es i) (Hs i) (rs i) (Hs (i + 1)) ((T.map (·.2)).getD i 9) ∧ (T.map (·.2)).getD i 9 ≠ 4 := by
  induction t with
  | @nil k E H => exact ⟨fun _ => E, fun _ => H, fun _ => none, rfl, rfl, rfl, rfl, fun i o h => by simp at h⟩
  | @pure k o rest E E' H H' T r hd g hg hgt h t ih =>
    obtain ⟨Es, Hs, rs, h1, h2, h3, h4, h5⟩ := ih
    refine ⟨fun | 0 => E | i + 1 => Es i, fun | 0 => H | i + 1 => Hs i, fun | 0 => r | i + 1 => rs i, rfl, rfl, h3, h4, ?_⟩
    intro i o' ho
    cases i with
    | zero => simp at ho; subst ho; exact ⟨hd, h1, by show One X ops o E H r (Hs 0) 0; rw [h2]; exact .pure hg hgt h, by show (0 : Nat) ≠ 4; decide⟩
    | succ i => exact h5 i o' (by simpa using ho)
  | @mem k o rest E E' H H' L T r hd g hg hgt h t ih =>
    obtain ⟨Es, Hs, rs, h1, h2, h3, h4, h5⟩ := ih
    refine ⟨fun | 0 => E | i + 1 => Es i, fun | 0 => H | i + 1 => Hs i, fun | 0 => r | i + 1 => rs i, rfl, rfl, h3, h4, ?_⟩
    intro i o' ho
    cases i with
    | zero => simp at ho; subst ho; exact ⟨hd, h1, by show One X ops o E H r (Hs 0) 1; rw [h2]; exact .mem hg hgt h, by show (1 : Nat) ≠ 4; decide⟩
    | succ i => exact h5 i o' (by simpa using ho)
  | @eff k o rest E E' H H' H1 T r hd g hg hgt hl h t ih =>
    obtain ⟨Es, Hs, rs, h1, h2, h3, h4, h5⟩ := ih
    refine ⟨fun | 0 => E | i + 1 => Es i, fun | 0 => H | i + 1 => Hs i, fun | 0 => r | i + 1 => rs i, rfl, rfl, h3, h4, ?_⟩
    intro i o' ho
    cases i with
    | zero => simp at ho; subst ho; exact ⟨hd, h1, by show One X ops o E H r (Hs 0) 2; rw [h2]; exact .eff hg hgt hl h, by show (2 : Nat) ≠ 4; decide⟩
    | succ i => exact h5 i o' (by simpa using ho)
  | @skip k o rest E E' H H' T hd g hg hgt t ih =>
    obtain ⟨Es, Hs, rs, h1, h2, h3, h4, h5⟩ := ih
    refine ⟨fun | 0 => E | i + 1 => Es i, fun | 0 => H | i + 1 => Hs i, fun | 0 => some (.tu []) | i + 1 => rs i, rfl, rfl, h3, h4, ?_⟩
    intro i o' ho
    cases i with
    | zero => simp at ho; subst ho; exact ⟨hd, h1, by show One X ops o E H (some (.tu [])) (Hs 0) 3; rw [h2]; exact .skip hg hgt rfl, by show (3 : Nat) ≠ 4; decide⟩
    | succ i => exact h5 i o' (by simpa using ho)

/-! ## The check -/

/-- Operation j waits for i, at once or through others. -/
def bfN (ops : Array Oper) : Nat → Nat → Nat → Bool
  | 0, _, _ => false
  | f + 1, j, i => match ops[j]? with
    | some o => (o.after.any fun e => Region.binds .any e && Nat.beq e.on i) || (o.after.any fun e => Region.binds .any e && bfN ops f e.on i)
    | none => false

theorem bfN_sound {ops : Array Oper} {ls : Nat → Bool} (hc : ∀ (j : Nat) o, ops[j]? = some o → ls j = true → ∀ e ∈ o.after, Region.binds .any e = true → ls e.on = true) :
    ∀ (f j i : Nat), bfN ops f j i = true → (∀ o, ops[j]? = some o → ∀ e ∈ o.after, Region.binds .any e = true → ls e.on = true) → ls i = true
  | 0, j, i, h, _ => by simp [bfN] at h
  | f + 1, j, i, h, hd => by
    simp only [bfN] at h
    split at h
    · rename_i o ho
      simp only [Bool.or_eq_true] at h
      rcases h with h | h
      · obtain ⟨e, he, hb⟩ := Array.any_eq_true'.1 h
        simp only [Bool.and_eq_true] at hb
        have := Nat.eq_of_beq_eq_true hb.2
        rw [← this]
        exact hd o ho e he hb.1
      · obtain ⟨e, he, hb⟩ := Array.any_eq_true'.1 h
        simp only [Bool.and_eq_true] at hb
        exact bfN_sound hc f e.on i hb.2 (fun o' ho' => hc e.on o' ho' (hd o ho e he hb.1))
    · cases h

def ordB (ops : Array Oper) (i j : Nat) : Bool := bfN ops ops.size j i

def memM (m : Nat) : Bool := Nat.beq m 1 || Nat.beq m 2
def pairB (ops : Array Oper) (ms : List Nat) (i j : Nat) : Bool := match ops[i]?, ops[j]? with
  | some o, some o' =>
    (match o'.dst with
      | some t => !((o.looksAt ops).any fun u => Nat.beq u t) || (if Nat.blt j i then ordB ops j i else if Nat.blt i j then ordB ops i j else true)
      | none => true) &&
    (!Nat.blt i j || (
      (match o.dst, o'.dst with
        | some t, some u => !Nat.beq t u
        | _, _ => true) &&
      (!(memM (ms.getD i 9) && memM (ms.getD j 9) && (Nat.beq (ms.getD i 9) 2 || Nat.beq (ms.getD j 9) 2)) || ordB ops i j)))
  | _, _ => true
/-- No order tells them apart. -/
def drawOk (ops : Array Oper) (T : List (Nat × Nat)) : Bool :=
  ((List.range ops.size).all fun j => match ops[j]? with
    | some o => o.after.all fun e => !Region.binds .any e || Nat.blt e.on j
    | none => true) &&
  ((List.range ops.size).all fun i => (List.range ops.size).all fun j => pairB ops (T.map (·.2)) i j)

structure DrawOk (ops : Array Oper) (ms : Nat → Nat) : Prop where
  back : ∀ (j : Nat) o, ops[j]? = some o → ∀ e ∈ o.after, Region.binds .any e = true → e.on < j
  look : ∀ (i j : Nat) o o' t, ops[i]? = some o → ops[j]? = some o' → o'.dst = some t → t ∈ o.looksAt ops → (j < i → ordB ops j i = true) ∧ (i < j → ordB ops i j = true)
  uniq : ∀ (i j : Nat) o o' t, ops[i]? = some o → ops[j]? = some o' → i < j → o.dst = some t → o'.dst ≠ some t
  effs : ∀ i j, i < j → j < ops.size → (ms i = 1 ∨ ms i = 2) → (ms j = 1 ∨ ms j = 2) → (ms i = 2 ∨ ms j = 2) → ordB ops i j = true

theorem drawOk_spec {ops : Array Oper} {T : List (Nat × Nat)} (h : drawOk ops T = true) : DrawOk ops (fun i => (T.map (·.2)).getD i 9) := by
  simp only [drawOk, Bool.and_eq_true, List.all_eq_true, List.mem_range] at h
  obtain ⟨h1, h2⟩ := h
  have lt : ∀ (i : Nat) o, ops[i]? = some o → i < ops.size := fun i o ho => (Array.getElem?_eq_some_iff.1 ho).1
  have pr : ∀ (i j : Nat) o o', ops[i]? = some o → ops[j]? = some o' → pairB ops (T.map (·.2)) i j = true := fun i j o o' ho ho' => h2 i (lt i o ho) j (lt j o' ho')
  refine ⟨?_, ?_, ?_, ?_⟩
  · intro j o ho e he hb
    have := h1 j (lt j o ho)
    rw [ho] at this
    simp only [Array.all_eq_true_iff_forall_mem] at this
    have := this e he
    rw [hb] at this
    simpa using this
  · intro i j o o' t ho ho' hd ht
    have := pr i j o o' ho ho'
    simp only [pairB, ho, ho', hd, Bool.and_eq_true] at this
    have hany : ((o.looksAt ops).any fun u => Nat.beq u t) = true := List.any_eq_true.2 ⟨t, ht, Nat.beq_refl t⟩
    rw [hany] at this
    have := this.1
    simp only [Bool.not_true, Bool.false_or, Nat.blt_eq] at this
    refine ⟨fun hlt => ?_, fun hlt => ?_⟩
    · rw [if_pos hlt] at this; exact this
    · rw [if_neg (by omega), if_pos hlt] at this; exact this
  · intro i j o o' t ho ho' hlt hd hd'
    have := pr i j o o' ho ho'
    simp only [pairB, ho, ho', hd, hd', Bool.and_eq_true] at this
    have := this.2
    have hb : Nat.blt i j = true := by simpa using hlt
    rw [hb] at this
    simp at this
  · intro i j hlt hj hi1 hj1 hij
    have := pr i j ops[i] ops[j] (by simp) (by simp)
    have hb : Nat.blt i j = true := by simpa using hlt
    have e1 : memM ((T.map (·.2)).getD i 9) = true := by rcases hi1 with h | h <;> rw [memM] <;> simp only [h] <;> rfl
    have e2 : memM ((T.map (·.2)).getD j 9) = true := by rcases hj1 with h | h <;> rw [memM] <;> simp only [h] <;> rfl
    have e3 : (Nat.beq ((T.map (·.2)).getD i 9) 2 || Nat.beq ((T.map (·.2)).getD j 9) 2) = true := by rcases hij with h | h <;> simp only [h] <;> simp
    simp only [pairB, Bool.and_eq_true] at this
    rw [Array.getElem?_eq_getElem (by omega), Array.getElem?_eq_getElem hj] at this
    simp only [hb, e1, e2, e3, Bool.not_true, Bool.false_or, Bool.and_eq_true, Bool.and_self] at this
    exact this.2.2
end Go.Aw
