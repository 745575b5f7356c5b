/- Names are given anew: what nobody names is dropped. Functions from their bodies; loops whose rounds make memory. -/
import Derived.Test.YtfdopoijhjbamaaDoorAwI
namespace Go.Aw
open Go.RowKit
set_option linter.unusedVariables false
set_option linter.unusedSimpArgs false

/-- From n on: names by a list. -/
def renB (n : Nat) (r : List Nat) : Bid → Bid
  | .l m => if m < n then .l m else .l (n + r.getD (m - n) 0)
  | .g m => .g m
def AC.ren (n : Nat) (r : List Nat) : AC → AC
  | .sl b off len lo ex => .sl (renB n r b) off len lo ex
  | .pt b off => .pt (renB n r b) off
  | .fn f ps => .fn f (ps.map fun p => (renB n r p.1, p.2))
  | c => c
def AV.ren (n : Nat) (r : List Nat) : AV → AV
  | .c x => .c (x.ren n r)
  | .ag cs => .ag (cs.map (AC.ren n r))
def AT.ren (n : Nat) (r : List Nat) : AT → AT
  | .v x => .v (x.ren n r)
  | .tu xs => .tu (xs.map (AV.ren n r))

theorem renB_add (n : Nat) (r : List Nat) (j : Nat) : renB n r (.l (n + j)) = .l (n + r.getD j 0) := by
  simp only [renB]
  rw [if_neg (by omega)]
  congr 2
  rw [Nat.add_sub_cancel_left]
theorem renB_base (n : Nat) (r : List Nat) : renB n r (.l n) = .l (n + r.getD 0 0) := renB_add n r 0
theorem renB_lt {n m : Nat} (r : List Nat) (h : m < n) : renB n r (.l m) = .l m := by simp [renB, h]

/-- All names are below a number. -/
def Lo (n : Nat) (ids : List Bid) : Prop := ∀ m, .l m ∈ ids → m < n

def reI (ι : Inj) (n : Nat) (r : List Nat) (len : Nat) : Inj
  | .l m => if m < n + len then ι (renB n r (.l m)) else none
  | .g m => ι (.g m)

theorem reI_eq {ι : Inj} {n : Nat} {r : List Nat} {len : Nat} {b : Bid} (h : ∀ m, b = .l m → m < n + len) : reI ι n r len b = ι (renB n r b) := by
  cases b with
  | l m => simp only [reI]; rw [if_pos (h m rfl)]
  | g m => rfl

theorem RC.re {ι : Inj} {n : Nat} {r : List Nat} {len : Nat} {c : AC} {v : Value} (h : RC ι (c.ren n r) v) (hl : Lo (n + len) c.ids) : RC (reI ι n r len) c v := by
  cases c with
  | s _ => exact h
  | ns => exact h
  | np => exact h
  | er => exact h
  | em => exact h
  | sl b off m lo ex =>
    obtain ⟨L, c, h1, h2⟩ := h
    exact ⟨L, c, by rw [reI_eq (fun m e => hl m (by simp [AC.ids, e]))]; exact h1, h2⟩
  | pt b off =>
    obtain ⟨L, h1, h2⟩ := h
    exact ⟨L, by rw [reI_eq (fun m e => hl m (by simp [AC.ids, e]))]; exact h1, h2⟩
  | fn f ps =>
    obtain ⟨vs, h1, h2⟩ := h
    refine ⟨vs, h1, ?_⟩
    simp only [AC.ids] at hl
    clear h1
    induction ps generalizing vs with
    | nil => cases h2; exact .nil
    | cons p ps ih =>
      cases h2 with
      | cons ha hb =>
        refine .cons ?_ (ih (fun m hm => hl m (by simp at hm ⊢; exact .inr hm)) _ hb)
        obtain ⟨L, h3, h4⟩ := ha
        exact ⟨L, by rw [reI_eq (fun m e => hl m (by simp [← e]))]; exact h3, h4⟩

theorem A2.map_left {α β γ : Type} {R : α → β → Prop} {R' : γ → β → Prop} {f : γ → α} : ∀ {xs : List γ} {ys : List β}, A2 R (xs.map f) ys → (∀ x ∈ xs, ∀ y, R (f x) y → R' x y) → A2 R' xs ys
  | [], _, .nil, _ => .nil
  | x :: xs, _, .cons h t, hr => .cons (hr x (by simp) _ h) (A2.map_left t fun y hy => hr y (by simp [hy]))

theorem RV.re {ι : Inj} {n : Nat} {r : List Nat} {len : Nat} {c : AV} {v : Value} (h : RV ι (c.ren n r) v) (hl : Lo (n + len) c.ids) : RV (reI ι n r len) c v := by
  cases c with
  | c x => exact RC.re h hl
  | ag cs =>
    obtain ⟨vs, h1, h2⟩ := h
    exact ⟨vs, h1, h2.map_left fun x hx y hR => RC.re hR fun m hm => hl m (by simp only [AV.ids, List.mem_flatMap]; exact ⟨x, hx, hm⟩)⟩
theorem RT.re {ι : Inj} {n : Nat} {r : List Nat} {len : Nat} {c : AT} {v : Value} (h : RT ι (c.ren n r) v) (hl : Lo (n + len) c.ids) : RT (reI ι n r len) c v := by
  cases c with
  | v x => exact RV.re h hl
  | tu cs =>
    obtain ⟨vs, h1, h2⟩ := h
    exact ⟨vs, h1, h2.map_left fun x hx y hR => RV.re hR fun m hm => hl m (by simp only [AT.ids, List.mem_flatMap]; exact ⟨x, hx, hm⟩)⟩

theorem RC.ren_lo {ι : Inj} {n : Nat} {r : List Nat} {c : AC} {v : Value} (h : RC ι c v) (hl : Lo n c.ids) : RC ι (c.ren n r) v := by
  have e : ∀ b, (∀ m, b = .l m → m < n) → renB n r b = b := fun b hb => by
    cases b with
    | l m => exact renB_lt r (hb m rfl)
    | g m => rfl
  have : c.ren n r = c := by
    cases c with
    | s _ => rfl
    | ns => rfl
    | np => rfl
    | er => rfl
    | em => rfl
    | sl b off m lo ex => simp only [AC.ren]; rw [e b (fun m h => hl m (by simp [AC.ids, h]))]
    | pt b off => simp only [AC.ren]; rw [e b (fun m h => hl m (by simp [AC.ids, h]))]
    | fn f ps =>
      simp only [AC.ren]
      congr 1
      rw [List.map_congr_left (g := id)]
      · simp
      · intro p hp
        simp only [id]
        rw [e p.1 (fun m h => hl m (by simp only [AC.ids, List.mem_map]; exact ⟨p, hp, h⟩))]
  rw [this]
  exact h

/-- Blocks L are told anew as L'. -/
structure Mv (n : Nat) (r : List Nat) (L L' : Heap) : Prop where
  len : r.length = L'.length
  nodup : r.Nodup
  blk : ∀ (j : Nat) k, L'[j]? = some (some k) → ∃ i k0, r[j]? = some i ∧ L[i]? = some (some k0) ∧ k0.esz = k.esz ∧ (k.own = true → k0.own = true) ∧ k0.cells = k.cells.map (AC.ren n r)
  wf : ∀ (j : Nat) k, L'[j]? = some (some k) → ∀ c ∈ k.cells, Lo (n + L'.length) c.ids

/-- What is held names what is there. -/
def WF (X : Cx) (ι : Inj) (H : Heap) : Prop := ∀ b L k, ι b = some L → hget X H b = some k → ∀ c ∈ k.cells, Lo H.length c.ids

theorem Good.mv {X : Cx} {S : St} {ι : Inj} {H L L' : Heap} {w : World} {r : List Nat} (h : Good X S ι (H ++ L) w) (hS : S.H.length = H.length) (hw : WF X S.ι H) (m : Mv H.length r L L') : Good X S (reI ι H.length r L'.length) (H ++ L') w := by
  have small : ∀ q, q < H.length → reI ι H.length r L'.length (.l q) = ι (.l q) := fun q hq => by
    rw [reI_eq (fun m e => by cases e; omega), renB_lt r hq]
  have look : ∀ q k, H.length ≤ q → hget X (H ++ L') (.l q) = some k → ∃ i k0, r[q - H.length]? = some i ∧ hget X (H ++ L) (.l (H.length + i)) = some k0 ∧ k0.esz = k.esz ∧ (k.own = true → k0.own = true) ∧ k0.cells = k.cells.map (AC.ren H.length r) ∧
      reI ι H.length r L'.length (.l q) = ι (.l (H.length + i)) ∧ q - H.length < L'.length := by
    intro q k hq hk
    simp only [hget] at hk
    rw [List.getElem?_append_right hq] at hk
    have hk' : L'[q - H.length]? = some (some k) := by
      cases hx : L'[q - H.length]? with
      | none => rw [hx] at hk; cases hk
      | some y => rw [hx] at hk; simp at hk; rw [hk]
    obtain ⟨i, k0, h1, h2, h3, h4, h5⟩ := m.blk _ k hk'
    have hlt := (List.getElem?_eq_some_iff.1 hk').1
    refine ⟨i, k0, h1, ?_, h3, h4, h5, ?_, hlt⟩
    · simp only [hget]; rw [List.getElem?_append_right (by omega), Nat.add_sub_cancel_left, h2]; rfl
    · rw [reI_eq (fun m e => by cases e; omega)]
      simp only [renB]
      rw [if_neg (by omega), List.getD_eq_getElem?_getD, h1]
      rfl
  have lowk : ∀ q k, q < H.length → hget X (H ++ L') (.l q) = some k → hget X (H ++ L) (.l q) = some k ∧ hget X H (.l q) = some k := fun q k hq hk => by
    rw [hget_app (fun n e => by cases e; exact hq)] at hk ⊢
    exact ⟨hk, hk⟩
  refine ⟨⟨h.inv.fix, h.inv.glo, ?_, ?_, ?_⟩, ⟨?_, ?_⟩, ?_, ?_, ?_, h.fr⟩
  · intro b M k hb hk
    cases b with
    | g g =>
      obtain ⟨arr, t, fr, h1, h2, h3, h4, h5, h6⟩ := h.inv.blk (.g g) M k hb hk
      refine ⟨arr, t, fr, h1, h2, h3, h4, h5, fun j c hj => ?_⟩
      obtain ⟨v, h7, h8⟩ := h6 j c hj
      have lo : Lo H.length c.ids := hw (.g g) M k (by rw [← h.old (.g g) (fun n e => by cases e)]; exact hb) hk c (List.mem_of_getElem? hj)
      exact ⟨v, h7, (h8.ren_lo lo).re (fun q hq => by have := lo q hq; omega)⟩
    | l q =>
      by_cases hq : q < H.length
      · rw [small q hq] at hb
        obtain ⟨hk1, hk2⟩ := lowk q k hq hk
        obtain ⟨arr, t, fr, h1, h2, h3, h4, h5, h6⟩ := h.inv.blk (.l q) M k hb hk1
        refine ⟨arr, t, fr, h1, h2, h3, h4, h5, fun j c hj => ?_⟩
        obtain ⟨v, h7, h8⟩ := h6 j c hj
        have lo : Lo H.length c.ids := hw (.l q) M k (by rw [← h.old (.l q) (fun n e => by cases e; omega)]; exact hb) hk2 c (List.mem_of_getElem? hj)
        exact ⟨v, h7, (h8.ren_lo lo).re (fun q hq => by have := lo q hq; omega)⟩
      · obtain ⟨i, k0, h1, h2, h3, h4, h5, h6, h7⟩ := look q k (by omega) hk
        rw [h6] at hb
        obtain ⟨arr, t, fr, a1, a2, a3, a4, a5, a6⟩ := h.inv.blk _ M k0 hb h2
        refine ⟨arr, t, fr, a1, a2, ?_, by rw [← h3, a4], fun ho => by have := a5 (h4 ho); rwa [h3] at this, fun j c hj => ?_⟩
        · rw [h5] at a3; simpa using a3
        · have : k0.cells[j]? = some (c.ren H.length r) := by rw [h5]; simp [hj]
          obtain ⟨v, b1, b2⟩ := a6 j _ this
          have hk' : L'[q - H.length]? = some (some k) := by
            simp only [hget] at hk
            rw [List.getElem?_append_right (by omega)] at hk
            cases hx : L'[q - H.length]? with
            | none => rw [hx] at hk; cases hk
            | some y => rw [hx] at hk; simp at hk; rw [hk]
          exact ⟨v, b1, b2.re (m.wf _ k hk' c (List.mem_of_getElem? hj))⟩
  · intro b M k hb hk ho
    cases b with
    | g g => exact h.inv.ownK (.g g) M k hb hk ho
    | l q =>
      by_cases hq : q < H.length
      · rw [small q hq] at hb
        exact h.inv.ownK _ M k hb (lowk q k hq hk).1 ho
      · obtain ⟨i, k0, h1, h2, h3, h4, h5, h6, h7⟩ := look q k (by omega) hk
        rw [h6] at hb
        exact h.inv.ownK _ M k0 hb h2 (h4 ho)
  · have tr : ∀ b M k, reI ι H.length r L'.length b = some M → hget X (H ++ L') b = some k → ∃ b0 k0, ι b0 = some M ∧ hget X (H ++ L) b0 = some k0 ∧ (k.own = true → k0.own = true) ∧
        ((b0 = b ∧ ∀ q, b = .l q → q < H.length) ∨ ∃ q i, b = .l q ∧ H.length ≤ q ∧ r[q - H.length]? = some i ∧ b0 = .l (H.length + i)) := by
      intro b M k hb hk
      cases b with
      | g g => exact ⟨.g g, k, hb, hk, id, .inl ⟨rfl, fun q e => by cases e⟩⟩
      | l q =>
        by_cases hq : q < H.length
        · rw [small q hq] at hb
          exact ⟨.l q, k, hb, (lowk q k hq hk).1, id, .inl ⟨rfl, fun q' e => by cases e; exact hq⟩⟩
        · obtain ⟨i, k0, h1, h2, h3, h4, h5, h6, h7⟩ := look q k (by omega) hk
          rw [h6] at hb
          exact ⟨_, k0, hb, h2, h4, .inr ⟨q, i, rfl, by omega, h1, rfl⟩⟩
    intro b b' M M' k k' hb hb' hk hk' ho heq
    obtain ⟨b0, k0, a1, a2, a3, a4⟩ := tr b M k hb hk
    obtain ⟨b0', k0', a1', a2', a3', a4'⟩ := tr b' M' k' hb' hk'
    have e := h.inv.sep b0 b0' M M' k0 k0' a1 a1' a2 a2' (a3 ho) heq
    subst e
    rcases a4 with ⟨e1, l1⟩ | ⟨q, i, e1, l1, r1, e2⟩
    · rcases a4' with ⟨e1', l1'⟩ | ⟨q', i', e1', l1', r1', e2'⟩
      · rw [← e1, ← e1']
      · subst e1
        have := l1 _ e2'
        omega
    · rcases a4' with ⟨e1', l1'⟩ | ⟨q', i', e1', l1', r1', e2'⟩
      · subst e1'
        have := l1' _ e2
        omega
      · rw [e2] at e2'
        simp only [Bid.l.injEq] at e2'
        have hii : i = i' := by omega
        subst hii
        have hq1 := (List.getElem?_eq_some_iff.1 r1)
        have hq2 := (List.getElem?_eq_some_iff.1 r1')
        obtain ⟨p1, p2⟩ := hq1
        obtain ⟨p3, p4⟩ := hq2
        have := (List.getElem?_inj p1 m.nodup).1 (r1.trans r1'.symm)
        rw [e1, e1']
        congr 1
        omega
  · simp; omega
  · intro q k' hq hk ho
    exact h.le.own q k' hq (lowk q k' (by omega) hk).1 ho
  · intro b hb
    cases b with
    | g g => exact h.old (.g g) hb
    | l q =>
      have := hb q rfl
      rw [small q (by omega)]
      exact h.old _ hb
  · intro q hq
    simp only [List.length_append] at hq
    simp only [reI]
    rw [if_neg (by omega)]
  · intro q M hq hM
    by_cases hqn : q < H.length
    · rw [small q hqn] at hM
      exact h.new q M hq hM
    · simp only [reI] at hM
      split at hM
      · simp only [renB] at hM
        rw [if_neg hqn] at hM
        exact h.new _ M (by omega) hM
      · cases hM

/-- Temporaries are told anew. -/
def EMv (n : Nat) (r : List Nat) (len : Nat) (E E' : Env) : Prop := ∀ t v, E'.get t = some v → E.get t = some (v.ren n r) ∧ Lo (n + len) v.ids
theorem EMv.nil {n : Nat} {r : List Nat} {len : Nat} {E : Env} : EMv n r len E [] := fun t v h => by cases h
theorem EMv.cons {n : Nat} {r : List Nat} {len : Nat} {E E' : Env} {t : Nat} {v : AT} (h : E.get t = some (v.ren n r)) (hl : Lo (n + len) v.ids) (s : EMv n r len E E') : EMv n r len E ((t, some v) :: E') := by
  intro u x hx
  by_cases e : u = t
  · subst e; rw [Env.get_same] at hx; cases hx; exact ⟨h, hl⟩
  · rw [Env.get_ne _ _ e] at hx; exact s u x hx
theorem RE.mv {N : FK} {n : Nat} {r : List Nat} {len : Nat} {ι : Inj} {E E' : Env} {a : Act} (h : RE N ι E a) (m : EMv n r len E E') : RE N (reI ι n r len) E' a :=
  ⟨h.size, h.defers, fun t v ht => by
    obtain ⟨h1, h2⟩ := m t v ht
    obtain ⟨x, h3, h4⟩ := h.val t _ h1
    exact ⟨x, h3, h4.re h2⟩⟩

section
variable {X : Cx} {N : FK} {S : St} {E : Env} {H : Heap} {Q : APost}

theorem aw_mv {c : Code} {L L' : Heap} {r : List Nat} {E' : Env} (hS : S.H.length = H.length) (hw : WF X S.ι H) (m : Mv H.length r L L') (e : EMv H.length r L'.length E E') (h : AW X N S c E' (H ++ L') Q) : AW X N S c E (H ++ L) Q :=
  fun ι a w hg he => h _ a w (hg.mv hS hw m) (he.mv e)

/-- A loop whose rounds make memory of their own. -/
theorem aw_loop_mv {σ : Type} (st : σ → Env) (lp : σ → Heap) (pre : σ → Prop) (μ : σ → Nat) (s₀ : σ) {c : Code} {L : Heap} (hS : S.H.length = H.length) (hw : WF X S.ι H) (h₀ : pre s₀) (m₀ : ∃ r, Mv H.length r L (lp s₀) ∧ EMv H.length r (lp s₀).length E (st s₀))
    (round : ∀ s, pre s → AW X N S c (st s) (H ++ lp s) (Ax.then (fun E' H' => ∃ s' L', H' = H ++ L' ∧ pre s' ∧ μ s' < μ s ∧ ∃ r, Mv H.length r L' (lp s') ∧ EMv H.length r (lp s').length E' (st s')) Q)) : AW X N S (.loop c) E (H ++ L) Q := by
  intro ι a w hg he
  obtain ⟨r, m, e⟩ := m₀
  refine wp_loop_ghost (fun n a w => ∃ s ι, μ s = n ∧ pre s ∧ Good X S ι (H ++ lp s) w ∧ RE N ι (st s) a) (μ s₀) ⟨s₀, _, rfl, h₀, hg.mv hS hw m, he.mv e⟩ ?_
  rintro n a w ⟨s, ι, rfl, hp1, hg, he⟩
  refine wp_mono (round s hp1 ι a w hg he) ?_
  rintro e a' w' ⟨x, E', H', ι', rfl, h2, h3, h4⟩
  cases x with
  | normal =>
    obtain ⟨s', L', rfl, a1, a2, r, m, e⟩ := h2
    exact ⟨μ s', a2, s', _, rfl, a1, h3.mv hS hw m, h4.mv e⟩
  | exit id => exact ⟨.exit id, E', H', ι', rfl, h2, h3, h4⟩
  | ret => exact ⟨.ret, E', H', ι', rfl, h2, h3, h4⟩
end

/-- Parameters. -/
def argE : Nat → List AV → Env
  | _, [] => []
  | k, v :: vs => (k, some (.v v)) :: argE (k + 1) vs
theorem argE_get : ∀ (k : Nat) (vs : List AV) (t : Nat) (x : AT), (argE k vs).get t = some x → ∃ v, vs[t - k]? = some v ∧ k ≤ t ∧ x = .v v
  | k, [], t, x, h => by cases h
  | k, v :: vs, t, x, h => by
    simp only [argE] at h
    by_cases e : t = k
    · subst e; rw [Env.get_same] at h; cases h; exact ⟨v, by simp, Nat.le_refl _, rfl⟩
    · rw [Env.get_ne _ _ e] at h
      obtain ⟨u, h1, h2, h3⟩ := argE_get (k + 1) vs t x h
      refine ⟨u, ?_, by omega, h3⟩
      rw [show t - k = (t - (k + 1)) + 1 by omega]
      simpa using h1

/-- A function's end: rs and the new blocks Ln, told anew; H1 for what was there. -/
structure Fin (X : Cx) (rv : List ResultVar) (H1 Ln : Heap) (rs : AT) (x : Ax) (E : Env) (H' : Heap) : Prop where
  ax : x = .ret ∨ x = .normal
  res : ∃ L r vs, H' = H1 ++ L ∧ Mv H1.length r L Ln ∧ resA X E H' rv = some vs ∧ resT vs = rs.ren H1.length r ∧ Lo (H1.length + Ln.length) rs.ids

theorem acalls_of {X : Cx} {f : FuncId} {fn : Func} {c : Code} {args : List AV} {H H1 Ln : Heap} {rs : AT} (hf : X.P.funcs[f]? = some fn) (hb : fn.body = some c) (hlen : Nat.ble args.length fn.ntmps = true) (hH : H1.length = H.length) (hw1 : ∀ ι, WF X ι H → WF X ι H1)
    (h : ∀ S, S.H = H → WF X S.ι H → AW X ⟨fn.ntmps, []⟩ S c (argE 0 args) H (Fin X fn.results.toList H1 Ln rs)) : ACalls X f args H rs (H1 ++ Ln) := by
  intro ι w vs hi hn hA
  refine calls_of_wp hf hb ?_
  simp only [Nat.ble_eq] at hlen
  have hvl := hA.length
  simp only [Array.length_toList] at hvl
  have hwf : WF X ι H := fun b L k hL hk c hc m hm => by
    obtain ⟨arr, t, fr, h1, h2, h3, h4, h5, h6⟩ := hi.blk b L k hL hk
    obtain ⟨j, hj, rfl⟩ := List.mem_iff_getElem.1 hc
    obtain ⟨v, _, h8⟩ := h6 j _ (List.getElem?_eq_getElem hj)
    obtain ⟨M, hM⟩ := h8.mapped hm
    exact Nat.lt_of_not_le fun h => by rw [hn m h] at hM; cases hM
  have hg : Good X ⟨ι, H, w⟩ ι H w := ⟨hi, Le.refl _ _, fun _ _ => rfl, hn, (fun n L h1 h2 => by rw [hn n h1] at h2; cases h2), Fr.refl _ _ _ _⟩
  have he : RE ⟨fn.ntmps, []⟩ ι (argE 0 args) { tmps := vs ++ Array.replicate (fn.ntmps - vs.size) undef, defers := [] } := by
    refine ⟨by simp; omega, rfl, fun t v ht => ?_⟩
    obtain ⟨u, h1, h2, rfl⟩ := argE_get 0 args t v ht
    obtain ⟨y, h3, h4⟩ := hA.get _ u h1
    have hlt := (List.getElem?_eq_some_iff.1 h3).1
    simp only [Nat.sub_zero, Array.length_toList] at hlt h3
    refine ⟨y, ?_, h4⟩
    rw [Array.getElem?_append_left hlt]
    simpa using h3
  refine wp_mono (h ⟨ι, H, w⟩ rfl hwf ι _ w hg he) ?_
  rintro e a' w' ⟨x, E', H', ι', rfl, ⟨hx, L, r, us, rfl, m, hres, hrs, hlo⟩, h3, h4⟩
  obtain ⟨y, hy1, hy2⟩ := results_sound h3.inv h4 hres
  have hgm := h3.mv (by simp only; omega) (hw1 _ hwf) m
  have key : a'.defers = [] ∧ ∃ v, (results fn a'.tmps).run X.P w' = .ok v w' ∧ ∃ ι' r, Ending.returned v = .returned r ∧ RT ι' rs r ∧ Step X ι H w ι' (H1 ++ Ln) w' := by
    refine ⟨h4.defers, y, hy1, _, y, rfl, (hrs ▸ hy2).re hlo, hgm.inv, hgm.le, ?_, ?_, hgm.fr⟩
    · intro b hb'
      by_cases hq : ∀ n, b = .l n → n < H.length
      · exact hgm.old b hq
      · have : ∃ n, b = .l n ∧ ¬ n < H.length := by
          cases b with
          | l n => exact ⟨n, rfl, fun h => hq (fun m e => by cases e; exact h)⟩
          | g n => exact absurd (fun m e => by cases e) hq
        obtain ⟨n, rfl, hn'⟩ := this
        rcases hb' n rfl with h5 | h5
        · exact absurd h5 hn'
        · rw [hn n (by omega)]
          exact hgm.none n h5
    · intro n L h5 h6 h7
      exact hgm.new n L h5 h7
  rcases hx with rfl | rfl
  · exact key
  · exact key
end Go.Aw
