/- Regions: operations one behind the other, in the text's order. -/
import Derived.Test.YtfdopoijhjbamaaDoorAwA
namespace Go.Aw
open Go.RowKit
set_option linter.unusedVariables false
set_option linter.unusedSimpArgs false

/-- How a constant of one cell reads. -/
def cc : Value → Option AC
  | .slice none 0 0 => some .ns
  | .pointer none => some .np
  | .bool b => some (.s (.bool b))
  | .int k n => some (.s (.int k n))
  | .string s => some (.s (.string s))
  | .nilIface => some (.s .nilIface)
  | .nilFunc => some (.s .nilFunc)
  | _ => none

def ccs : List Value → Option (List AC)
  | [] => some []
  | v :: r => match cc v, ccs r with
    | some x, some xs => some (x :: xs)
    | _, _ => none

/-- How an operand reads. -/
def opv (X : Cx) (E : Env) : Operand → Option AT
  | .tmp t => E.get t
  | .const (.agg cs) => (ccs cs.toList).map fun xs => .v (.ag xs)
  | .const v => (cc v).map fun x => .v (.c x)
  | .global g => match X.G g with
    | some (⟨b, 0, _, _⟩, _) => if b = g then some (.v (.c (.pt (.g g) 0))) else none
    | _ => none
  | .func f => some (.v (.c (.fn f [])))

theorem cc_sound {v : Value} {x : AC} (h : cc v = some x) (ι : Inj) : RC ι x v := by
  unfold cc at h
  split at h <;> simp at h
  all_goals (subst h; first | rfl | exact ⟨rfl, rfl⟩)

theorem ccs_sound : ∀ {vs : List Value} {xs : List AC}, ccs vs = some xs → ∀ (ι : Inj), A2 (RC ι) xs vs
  | [], xs, h, ι => by simp [ccs] at h; subst h; exact .nil
  | v :: r, xs, h, ι => by
    simp only [ccs] at h
    split at h
    · rename_i x xs' h1 h2
      cases h
      exact .cons (cc_sound h1 ι) (ccs_sound h2 ι)
    · cases h

/-- What an operation is told of its operands. -/
def ROp (X : Cx) (ι : Inj) (E : Env) (a : Act) (o : Op) : Prop := ∀ x ∈ o.operands.toList, ∀ v, opv X E x = some v → RT ι v (a.eval x)

theorem opv_sound {X : Cx} {N : FK} {ι : Inj} {E : Env} {a : Act} (he : RE N ι E a) (hgl : ∀ n, ι (.g n) = (X.G n).map (·.1)) {x : Operand} {v : AT} (h : opv X E x = some v) : RT ι v (a.eval x) := by
  cases x with
  | tmp t =>
    obtain ⟨y, h1, h2⟩ := he.val t v h
    simpa [Act.eval, h1] using h2
  | const c =>
    have gen : ∀ c', (cc c').map (fun x => AT.v (.c x)) = some v → RT ι v c' := by
      intro c' h
      cases hc : cc c' with
      | none => simp [hc] at h
      | some y => simp [hc] at h; subst h; exact cc_sound hc ι
    cases c with
    | agg cs =>
      simp only [opv] at h
      cases hc : ccs cs.toList with
      | none => simp [hc] at h
      | some y =>
        simp [hc] at h
        subst h
        exact ⟨cs.toList, by simp [Act.eval], ccs_sound hc ι⟩
    | _ => exact gen _ h
  | global g =>
    simp only [opv] at h
    split at h
    · rename_i b sz ez q hq
      split at h
      · rename_i e
        subst e
        cases h
        exact ⟨⟨b, 0, sz, ez⟩, by rw [hgl, hq]; rfl, by simp [Act.eval, ptv]⟩
      · cases h
    · cases h
  | func f => cases h; exact ⟨[], rfl, .nil⟩

/-- ONE OPERATION, told by abstract values: it comes to r (nothing is told where r is none) and leaves H'. -/
def OS (X : Cx) (o : Oper) (E : Env) (H : Heap) (r : Option AT) (H' : Heap) : Prop :=
  ∀ (ι : Inj) (a : Act) (w : World), Inv X ι H w → (∀ n, H.length ≤ n → ι (.l n) = none) → ROp X ι E a o.op →
    ∀ (K : Act → World → Prop) (Q : Exit → Act → World → Prop), (∀ ι' x w', Step X ι H w ι' H' w' → (∀ v, r = some v → RT ι' v x) → K (a.put o.dst x) w') → o.wp X.P a w K Q

def Env.out (E : Env) (o : Oper) (r : Option AT) : Env := match o.dst with
  | some d => (d, r) :: E
  | none => E
def dstOk (N : Nat) (o : Oper) : Bool := match o.dst with
  | some d => Nat.blt d N
  | none => true

/-- The guard of an operation: what it reads, and what it wants. -/
def gd (ops : Array Oper) (o : Oper) (E : Env) : Option (Bool × Bool) := match o.guard with
  | none => some (true, true)
  | some (j, want) => match (ops[j]?).bind (·.dst) with
    | some d => match E.get d with
      | some (.v (.c (.s (.bool b)))) => some (b, want)
      | some (.tu []) => some (!want, want)
      | _ => none
    | none => none

theorem RE.out {N : FK} {ι : Inj} {E : Env} {a : Act} (he : RE N ι E a) {o : Oper} (hd : dstOk N o = true) {r : Option AT} {x : Value} (hr : ∀ v, r = some v → RT ι v x) : RE N ι (E.out o r) (a.put o.dst x) := by
  unfold Env.out
  unfold dstOk at hd
  cases hdst : o.dst with
  | none => exact ⟨he.size, he.defers, he.val⟩
  | some d =>
    rw [hdst] at hd
    simp only [Nat.blt_eq] at hd
    cases r with
    | some v => exact he.put hd (hr v rfl)
    | none =>
      refine he.drop (some d) x _ ?_
      intro t v ht
      by_cases e : t = d
      · subst e; rw [Env.get_same] at ht; cases ht
      · rw [Env.get_ne _ _ e] at ht; exact ⟨fun h => e (by cases h; rfl), ht⟩

theorem gd_wanted {N : FK} {ι : Inj} {E : Env} {a : Act} (he : RE N ι E a) {ops : Array Oper} {o : Oper} {b c : Bool} (h : gd ops o E = some (b, c)) : Region.wanted o (yielded ops a.tmps) = (b == c) := by
  unfold gd at h
  unfold Region.wanted
  split at h
  · rename_i hg; rw [hg]; cases h; rfl
  · rename_i j want hg
    rw [hg]
    split at h
    · rename_i d hd
      split at h
      · rename_i x hc
        cases h
        obtain ⟨y, h1, h2⟩ := he.val d _ hc
        obtain ⟨rfl, _⟩ : y = .bool b ∧ _ := h2
        simp only [yielded, hd, Option.bind_some, h1]
        cases b <;> cases c <;> rfl
      · rename_i hc
        cases h
        obtain ⟨y, h1, vs, rfl, hA⟩ := he.val d _ hc
        cases hA
        simp only [yielded, hd, Option.bind_some, h1]
        cases c <;> rfl
      · cases h
    · cases h

/-- A run through operations: what is reckoned at each. Marks: 0: memory doesn't count; 1: memory is read or made; 2: memory turns; 3: not carried out. -/
inductive Tr (X : Cx) (N : FK) (ops : Array Oper) : Nat → List Oper → Env → Heap → List (Nat × Nat) → Env → Heap → Prop
  | nil {k : Nat} {E : Env} {H : Heap} : Tr X N ops k [] E H [] E H
  | pure {k : Nat} {o : Oper} {rest : List Oper} {E E' : Env} {H H' : Heap} {T : List (Nat × Nat)} {r : Option AT} (hd : dstOk N o = true) {g : Bool × Bool} (hg : gd ops o E = some g) (hgt : g.1 = g.2) (h : ∀ H, OS X o E H r H)
      (t : Tr X N ops (k + 1) rest (E.out o r) H T E' H') : Tr X N ops k (o :: rest) E H ((k, 0) :: T) E' H'
  | mem {k : Nat} {o : Oper} {rest : List Oper} {E E' : Env} {H H' L : Heap} {T : List (Nat × Nat)} {r : Option AT} (hd : dstOk N o = true) {g : Bool × Bool} (hg : gd ops o E = some g) (hgt : g.1 = g.2) (h : OS X o E H r (H ++ L))
      (t : Tr X N ops (k + 1) rest (E.out o r) (H ++ L) T E' H') : Tr X N ops k (o :: rest) E H ((k, 1) :: T) E' H'
  | eff {k : Nat} {o : Oper} {rest : List Oper} {E E' : Env} {H H' H1 : Heap} {T : List (Nat × Nat)} {r : Option AT} (hd : dstOk N o = true) {g : Bool × Bool} (hg : gd ops o E = some g) (hgt : g.1 = g.2) (hl : H.length ≤ H1.length) (h : OS X o E H r H1)
      (t : Tr X N ops (k + 1) rest (E.out o r) H1 T E' H') : Tr X N ops k (o :: rest) E H ((k, 2) :: T) E' H'
  | skip {k : Nat} {o : Oper} {rest : List Oper} {E E' : Env} {H H' : Heap} {T : List (Nat × Nat)} (hd : dstOk N o = true) {g : Bool × Bool} (hg : gd ops o E = some g) (hgt : g.1 = !g.2)
      (t : Tr X N ops (k + 1) rest (E.out o (some (.tu []))) H T E' H') : Tr X N ops k (o :: rest) E H ((k, 3) :: T) E' H'

theorem OS.list {X : Cx} {N : FK} {S : St} {ops : Array Oper} {o : Oper} {rest : List Oper} {E : Env} {H H' : Heap} {r : Option AT} {Q : Exit → Act → World → Prop} (hd : dstOk N o = true) {g : Bool × Bool} (hg : gd ops o E = some g) (hgt : g.1 = g.2) (h : OS X o E H r H')
    (k : ∀ ι a w, Good X S ι H' w → RE N ι (E.out o r) a → wpList X.P ops Q rest a w) : ∀ ι a w, Good X S ι H w → RE N ι E a → wpList X.P ops Q (o :: rest) a w := by
  intro ι a w hgood he
  unfold wpList
  rw [if_pos (by rw [gd_wanted he (show gd ops o E = some (g.1, g.2) from hg), hgt]; simp)]
  refine .inl (h ι a w hgood.inv hgood.none (fun x _ v hv => opv_sound he hgood.inv.glo hv) _ _ ?_)
  intro ι' x w' hs hr
  exact k ι' _ w' (hgood.step hs) (RE.out (he.mono (hgood.keeps hs)) hd hr)

theorem Tr.list {X : Cx} {N : FK} {S : St} {ops : Array Oper} {k : Nat} {l : List Oper} {E E' : Env} {H H' : Heap} {T : List (Nat × Nat)} (t : Tr X N ops k l E H T E' H') {Q : Exit → Act → World → Prop}
    (hQ : ∀ ι a w, Good X S ι H' w → RE N ι E' a → Q .normal a w) : ∀ ι a w, Good X S ι H w → RE N ι E a → wpList X.P ops Q l a w := by
  induction t with
  | nil => exact fun ι a w hg he => hQ ι a w hg he
  | pure hd hg hgt h t ih => exact OS.list hd hg hgt (h _) (ih hQ)
  | mem hd hg hgt h t ih => exact OS.list hd hg hgt h (ih hQ)
  | eff hd hg hgt _ h t ih => exact OS.list hd hg hgt h (ih hQ)
  | @skip k o rest E E' H H' T hd g hg hgt t ih =>
    intro ι a w hgood he
    unfold wpList
    rw [if_neg (by rw [gd_wanted he (b := g.1) (c := g.2) hg, hgt]; simp)]
    exact ih hQ ι _ w hgood (RE.out he hd (by intro v h; cases h; exact ⟨[], rfl, .nil⟩))

/-- Operations, and then K. -/
def RR (X : Cx) (N : FK) (ops : Array Oper) (chk : List (Nat × Nat) → Bool) (k : Nat) (l : List Oper) (E : Env) (H : Heap) (K : Env → Heap → Prop) : Prop :=
  ∃ T E' H', Tr X N ops k l E H T E' H' ∧ chk T = true ∧ K E' H'

section
variable {X : Cx} {N : FK} {S : St} {ops : Array Oper} {chk : List (Nat × Nat) → Bool} {k : Nat} {o : Oper} {rest : List Oper} {E : Env} {H : Heap} {K : Env → Heap → Prop}
theorem rr_nil (hc : chk [] = true) (h : K E H) : RR X N ops chk k [] E H K := ⟨[], E, H, .nil, hc, h⟩
theorem rr_pure {r : Option AT} (h : ∀ H, OS X o E H r H) (hd : dstOk N o = true) {g : Bool × Bool} (hg : gd ops o E = some g) (hgt : g.1 = g.2) (t : RR X N ops (fun T => chk ((k, 0) :: T)) (k + 1) rest (E.out o r) H K) : RR X N ops chk k (o :: rest) E H K :=
  let ⟨T, E', H', h1, h2, h3⟩ := t; ⟨_, E', H', .pure hd hg hgt h h1, h2, h3⟩
theorem rr_mem {r : Option AT} {L : Heap} (h : OS X o E H r (H ++ L)) (hd : dstOk N o = true) {g : Bool × Bool} (hg : gd ops o E = some g) (hgt : g.1 = g.2) (t : RR X N ops (fun T => chk ((k, 1) :: T)) (k + 1) rest (E.out o r) (H ++ L) K) : RR X N ops chk k (o :: rest) E H K :=
  let ⟨T, E', H', h1, h2, h3⟩ := t; ⟨_, E', H', .mem hd hg hgt h h1, h2, h3⟩
theorem rr_read {r : Option AT} (h : OS X o E H r H) (hd : dstOk N o = true) {g : Bool × Bool} (hg : gd ops o E = some g) (hgt : g.1 = g.2) (t : RR X N ops (fun T => chk ((k, 1) :: T)) (k + 1) rest (E.out o r) H K) : RR X N ops chk k (o :: rest) E H K :=
  let ⟨T, E', H', h1, h2, h3⟩ := t; ⟨_, E', H', .mem (L := []) hd hg hgt (by simpa using h) (by simpa using h1), h2, h3⟩
theorem rr_eff {r : Option AT} {H1 : Heap} (h : OS X o E H r H1) (hd : dstOk N o = true) {g : Bool × Bool} (hg : gd ops o E = some g) (hgt : g.1 = g.2) (hl : H.length ≤ H1.length) (t : RR X N ops (fun T => chk ((k, 2) :: T)) (k + 1) rest (E.out o r) H1 K) : RR X N ops chk k (o :: rest) E H K :=
  let ⟨T, E', H', h1, h2, h3⟩ := t; ⟨_, E', H', .eff hd hg hgt hl h h1, h2, h3⟩
theorem rr_skip (hd : dstOk N o = true) {g : Bool × Bool} (hg : gd ops o E = some g) (hgt : g.1 = !g.2) (t : RR X N ops (fun T => chk ((k, 3) :: T)) (k + 1) rest (E.out o (some (.tu []))) H K) : RR X N ops chk k (o :: rest) E H K :=
  let ⟨T, E', H', h1, h2, h3⟩ := t; ⟨_, E', H', .skip hd hg hgt h1, h2, h3⟩

theorem aw_region {id : Nat} {l : List Oper} {Q : APost} (h : RR X N l.toArray (fun _ => true) 0 l E H (Q .normal)) : AW X N S (.region id l.toArray false) E H Q := by
  obtain ⟨T, E', H', h1, _, h3⟩ := h
  intro ι a w hg he
  refine wp_region_lit (Tr.list h1 (S := S) ?_ ι a w hg he)
  intro ι a w hg he
  exact ⟨.normal, E', H', ι, rfl, h3, hg, he⟩
end
end Go.Aw
