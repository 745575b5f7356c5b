/- Rules as they are used: what needs no side condition is reckoned; rows of plain cells; ends. -/
import Derived.Test.YtfdopoijhjbamaaDoorAwJ
namespace Go.Aw
open Go.RowKit
set_option linter.unusedVariables false
set_option linter.unusedSimpArgs false

/-- Operations that need no side condition. -/
def evP (X : Cx) (E : Env) : Op → Option AT
  | .move x => opv X E x
  | .assign x => opv X E x
  | .extract x j => match opv X E x with
    | some (.tu vs) => match vs[j]? with
      | some v => some (.v v)
      | none => none
    | _ => none
  | .unOp .not _ x => match opv X E x with
    | some (.v (.c (.s (.bool b)))) => some (Vb (!b))
    | _ => none
  | .fieldAddr s x j => match X.ty s with
    | some ⟨.struct ps, _, _, _⟩ => match ps[j]? with
      | some p => match opv X E x with
        | some (.v (.c (.pt b off))) => some (.v (.c (.pt b (off + p.1))))
        | _ => none
      | none => none
    | _ => none
  | .binOp op _ x y _ => match opv X E x, opv X E y with
    | some (.v (.c (.s (.int k a)))), some (.v (.c (.s (.int k' b)))) => if k = k' then (match op with
      | .add => none
      | .sub => none
      | .mul => none
      | op => (ibin op k a b).map fun v => .v (.c (.s v))) else none
    | some (.v (.c (.s (.string a)))), some (.v (.c (.s (.string b)))) => (sbin op a b).map fun v => .v (.c (.s v))
    | _, _ => none
  | .build t ps => match X.ty t with
    | some ⟨.struct fs, _, _, zz⟩ => match opvs X E (ps.toList.map (·.2)) with
      | some vs => (fillA (fun i => fs[i]?) (zz.map ZC.ac) ((ps.toList.map (·.1)).zip vs)).map fun cs => .v (.ag cs)
      | none => none
    | _ => none
  | .call { callee := .builtin .len, args := ⟨[x]⟩, argTypes := ⟨[t]⟩ } => match X.ty t with
    | some ⟨.str, _, _, _⟩ => match opv X E x with
      | some (.v (.c (.s (.string s)))) => some (I64 s.size)
      | _ => none
    | some ⟨.slice _, _, _, _⟩ => match opv X E x with
      | some v => match slen v with
        | some n => some (I64 n)
        | none => none
      | none => none
    | _ => none
  | _ => none

theorem rp {X : Cx} {o : Oper} {E : Env} {v : AT} (h : evP X E o.op = some v) (H : Heap) : OS X o E H (some v) H := by
  unfold evP at h
  split at h
  · rename_i x ho; exact r_move ho h H
  · rename_i x ho; exact r_assign ho h H
  · rename_i x j ho
    split at h
    · rename_i vs hv
      split at h
      · rename_i u hu; cases h; exact r_extract ho hv hu H
      · cases h
    · cases h
  · rename_i t x ho
    split at h
    · rename_i b hb; cases h; exact r_not ho hb H
    · cases h
  · rename_i s x j ho
    split at h
    · rename_i ps a b c ht
      split at h
      · rename_i p hp
        split at h
        · rename_i bd off hx; cases h; exact r_fieldAddr ho ht hp hx H
        · cases h
      · cases h
    · cases h
  · rename_i op t x y u ho
    split at h
    · rename_i k a k' b hx hy
      split at h
      · rename_i hk
        subst hk
        have key : ∀ w, (ibin op k a b).map (fun v => AT.v (.c (.s v))) = some w → OS X o E H (some w) H := by
          intro w hw
          cases hb : ibin op k a b with
          | none => rw [hb] at hw; cases hw
          | some z => rw [hb] at hw; cases hw; exact r_bin ho hx hy hb H
        split at h
        · cases h
        · cases h
        · cases h
        · exact key v h
      · cases h
    · rename_i a b hx hy
      cases hb : sbin op a b with
      | none => rw [hb] at h; cases h
      | some z => rw [hb] at h; cases h; exact r_sbin ho hx hy hb H
    · cases h
  · rename_i t ps ho
    split at h
    · rename_i fs a b zz ht
      split at h
      · rename_i vs hv
        cases hf : fillA (fun i => fs[i]?) (zz.map ZC.ac) ((ps.toList.map (·.1)).zip vs) with
        | none => rw [hf] at h; cases h
        | some cs => rw [hf] at h; cases h; exact r_build (parts := ps.toList) (by rw [ho]) ht hv hf H
      · cases h
    · cases h
  · rename_i x t ho
    split at h
    · rename_i a b c ht
      split at h
      · rename_i s hs; cases h; exact r_lens ho (ty_str ht) hs H
      · cases h
    · rename_i e a b c ht
      split at h
      · rename_i u hu
        split at h
        · rename_i n hn; cases h; exact r_len ho (ty_slice ht) hu hn H
        · cases h
      · cases h
    · cases h
  · cases h

section
variable {X : Cx} {N : FK} {S : St} {ops : Array Oper} {chk : List (Nat × Nat) → Bool} {k : Nat} {o : Oper} {rest : List Oper} {E : Env} {H L : Heap} {K : Env → Heap → Prop} {Q : APost}

/-- Either way of a guard. -/
theorem rr_split {b c : Bool} (hg : gd ops o E = some (b, c)) (h1 : b = true → RR X N ops chk k (o :: rest) E H K) (h2 : b = false → RR X N ops chk k (o :: rest) E H K) : RR X N ops chk k (o :: rest) E H K := by
  cases hb : b with
  | true => exact h1 hb
  | false => exact h2 hb

theorem r_pick_t {c x y : Operand} {b : Bool} {v : AT} (ho : o.op = .pick c x y) (hc : opv X E c = some (Vb b)) (hb : b = true) (hx : opv X E x = some v) (H : Heap) : OS X o E H (some v) H :=
  r_pick ho hc (fun _ => hx) (fun h => by rw [hb] at h; cases h) H
theorem r_pick_f {c x y : Operand} {b : Bool} {v : AT} (ho : o.op = .pick c x y) (hc : opv X E c = some (Vb b)) (hb : b = false) (hy : opv X E y = some v) (H : Heap) : OS X o E H (some v) H :=
  r_pick ho hc (fun h => by rw [hb] at h; cases h) (fun _ => hy) H

theorem ld_app {bd : Bid} {off n : Nat} {cs : List AC} (h : ld X H bd off n = some cs) : ld X (H ++ L) bd off n = some cs := by
  unfold ld at h ⊢
  cases hk : hget X H bd with
  | none => rw [hk] at h; cases h
  | some k =>
    have : hget X (H ++ L) bd = some k := by
      rw [hget_app]
      · exact hk
      · intro n e; subst e; exact hget_lt hk
    rw [this]
    rw [hk] at h
    exact h

/-- A slice of plain cells reads as a list. -/
def Rd {α : Type} (X : Cx) (H : Heap) (sz : Nat) (enc : α → List AC) : AC → List α → Prop
  | .ns, xs => xs = []
  | .em, xs => xs = []
  | .sl bd off n lo ex, xs => n = xs.length ∧ ld X H bd off (n * sz) = some (xs.flatMap enc) ∧ ∀ x, (enc x).length = sz
  | _, _ => False

theorem Rd.app {α : Type} {sz : Nat} {enc : α → List AC} {v : AC} {xs : List α} (h : Rd X H sz enc v xs) : Rd X (H ++ L) sz enc v xs := by
  cases v <;> first | exact h | exact ⟨h.1, ld_app h.2.1, h.2.2⟩
theorem Rd.slen {α : Type} {sz : Nat} {enc : α → List AC} {v : AC} {xs : List α} (h : Rd X H sz enc v xs) : slen (.v (.c v)) = some xs.length := by
  cases v with
  | ns => cases h; rfl
  | em => cases h; rfl
  | sl => obtain ⟨rfl, _⟩ := h; rfl
  | _ => cases h

/-- A slice's block and where it begins. -/
def AC.bd : AC → Bid
  | .sl b _ _ _ _ => b
  | _ => .l 0
def AC.of : AC → Nat
  | .sl _ off _ _ _ => off
  | _ => 0

theorem flatMap_at {α : Type} {enc : α → List AC} {sz : Nat} (hs : ∀ x, (enc x).length = sz) : ∀ (xs : List α) (i : Nat) (x : α), xs[i]? = some x → ((xs.flatMap enc).drop (i * sz)).take sz = enc x
  | [], i, x, h => by simp at h
  | y :: ys, 0, x, h => by
    simp at h; subst h
    simp only [Nat.zero_mul, List.drop_zero, List.flatMap_cons]
    rw [List.take_append_of_le_length (by rw [hs]; exact Nat.le_refl _), ← hs y, List.take_length]
  | y :: ys, i + 1, x, h => by
    simp only [List.flatMap_cons]
    rw [Nat.add_mul, Nat.one_mul, List.drop_append, List.drop_eq_nil_of_le (by rw [hs]; omega), List.nil_append, hs y, Nat.add_sub_cancel]
    exact flatMap_at hs ys i x (by simpa using h)
theorem flatMap_len {α : Type} {enc : α → List AC} {sz : Nat} (hs : ∀ x, (enc x).length = sz) : ∀ (xs : List α), (xs.flatMap enc).length = xs.length * sz
  | [] => by simp
  | x :: xs => by simp [List.flatMap_cons, flatMap_len hs xs, hs, Nat.add_mul]; omega

theorem Rd.at {α : Type} {sz : Nat} {enc : α → List AC} {v : AC} {xs : List α} (h : Rd X H sz enc v xs) {i : Nat} {x : α} (hx : xs[i]? = some x) : ld X H v.bd (v.of + i * sz) sz = some (enc x) := by
  cases v with
  | ns => cases h; simp at hx
  | em => cases h; simp at hx
  | sl bd off n lo ex =>
    obtain ⟨rfl, h1, h2⟩ := h
    simp only [AC.bd, AC.of]
    unfold ld at h1 ⊢
    split at h1
    · rename_i k hk
      split at h1
      · rename_i hle
        have hi := (List.getElem?_eq_some_iff.1 hx).1
        have hm : (i + 1) * sz ≤ xs.length * sz := Nat.mul_le_mul_right _ hi
        rw [Nat.add_mul, Nat.one_mul] at hm
        simp only [Option.some.injEq] at h1
        rw [if_pos (by omega)]
        have := flatMap_at h2 xs i x hx
        rw [← h1] at this
        rw [← this]
        congr 1
        rw [List.drop_take, List.take_take, List.drop_drop]
        rw [show min sz (xs.length * sz - i * sz) = sz by omega]
      · cases h1
    · cases h1
  | _ => cases h

/-- An element's place, of a slice that reads as a list. -/
theorem r_idxR {α : Type} {t : Nat} {x y : Operand} {v : AC} {enc : α → List AC} {xs : List α} {kk : IntKind} {i : Int} {el s1 b1 s2 b2 : Nat} {z1 z2 : List ZC} {k2 : TK} (ho : o.op = .indexAddr t x y) (ht : X.ty t = some ⟨.slice el, s1, b1, z1⟩) (he : X.ty el = some ⟨k2, s2, b2, z2⟩)
    (hx : opv X E x = some (.v (.c v))) (hy : opv X E y = some (Vi kk i)) (hr : ∃ H sz, Rd (α := α) X H sz enc v xs) (h0 : 0 ≤ i) (h1 : i < xs.length) (H : Heap) : OS X o E H (some (.v (.c (.pt v.bd (v.of + i.toNat * s2))))) H := by
  obtain ⟨H0, sz, hr⟩ := hr
  cases v with
  | ns => cases hr; simp at h1; omega
  | em => cases hr; simp at h1; omega
  | sl bd off n lo ex => obtain ⟨rfl, _⟩ := hr; exact r_idx ho ht he hx hy h0 h1 H
  | _ => cases hr

/-- A function's end without memory of its own. -/
theorem fin0 {rv : List ResultVar} {rs : AT} {vs : List AV} (hr : resA X E (H ++ L) rv = some vs) (h : resT vs = rs) (hi : rs.ids = []) : Fin X rv H [] rs .ret E (H ++ L) := by
  refine ⟨.inl rfl, L, [], vs, rfl, ⟨rfl, List.nodup_nil, fun j k h => by simp at h, fun j k h => by simp at h⟩, hr, ?_, fun m hm => by rw [hi] at hm; simp at hm⟩
  rw [h]
  have cr : ∀ c : AC, c.ids = [] → c.ren H.length [] = c := fun c hc => by
    cases c with
    | sl => simp [AC.ids] at hc
    | pt => simp [AC.ids] at hc
    | fn f ps =>
      simp only [AC.ids, List.map_eq_nil_iff] at hc
      subst hc; rfl
    | _ => rfl
  have vr : ∀ v : AV, v.ids = [] → v.ren H.length [] = v := fun v hv => by
    cases v with
    | c x => simp only [AV.ren]; rw [cr x hv]
    | ag cs =>
      simp only [AV.ren]
      congr 1
      have : ∀ c ∈ cs, AC.ren H.length [] c = c := fun c hc => cr c (by
        simp only [AV.ids, List.flatMap_eq_nil_iff] at hv
        exact hv c hc)
      rw [List.map_congr_left this]; simp
  cases rs with
  | v x => simp only [AT.ren]; rw [vr x hi]
  | tu xs =>
    simp only [AT.ren]
    congr 1
    have : ∀ c ∈ xs, AV.ren H.length [] c = c := fun c hc => vr c (by
      simp only [AT.ids, List.flatMap_eq_nil_iff] at hi
      exact hi c hc)
    rw [List.map_congr_left this]; simp

/-- A function that leaves memory as it was. -/
theorem acalls0 {f : FuncId} {fn : Func} {c : Code} {args : List AV} {rs : AT} (hf : X.P.funcs[f]? = some fn) (hb : fn.body = some c) (hlen : Nat.ble args.length fn.ntmps = true)
    (h : ∀ S, S.H = H → WF X S.ι H → AW X ⟨fn.ntmps, []⟩ S c (argE 0 args) (H ++ []) (Fin X fn.results.toList H [] rs)) : ACalls X f args H rs H := by
  have := acalls_of (H1 := H) (Ln := []) hf hb hlen rfl (fun _ h => h) (fun S hS hw => by have := h S hS hw; simpa using this)
  simpa using this
end
end Go.Aw
