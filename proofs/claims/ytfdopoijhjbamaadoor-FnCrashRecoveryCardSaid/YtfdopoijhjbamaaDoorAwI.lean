/- Cuts, comparisons with nil, function values, calls; functions from their bodies. -/
import Derived.Test.YtfdopoijhjbamaaDoorAwH
namespace Go.Aw
open Go.RowKit
set_option linter.unusedVariables false
set_option linter.unusedSimpArgs false

section
variable {X : Cx} {o : Oper} {E : Env} {H : Heap}

/-- x[l:h]. -/
theorem r_cut {t el off n lo : Nat} {ex : Bool} {bd : Bid} {x : Operand} {lo' hi' : Option Operand} {l h : Nat} {s1 b1 : Nat} {zz1 : List ZC} {d : TD} {H' : Heap} (ho : o.op = .slice t x lo' hi' none) (ht : X.ty t = some ⟨.slice el, s1, b1, zz1⟩) (he : X.ty el = some d) (hx : opv X E x = some (.v (.c (.sl bd off n lo ex))))
    (hl : match lo' with | some y => opv X E y = some (I64 (l : Int)) | none => l = 0) (hh : match hi' with | some y => opv X E y = some (I64 (h : Int)) | none => h = n) (h1 : l ≤ h) (h2 : h ≤ n ∨ h ≤ lo) (h3 : l = 0 ∨ l < n ∨ l < lo)
    (hez : ∀ ι w L, Inv X ι H w → ι bd = some L → L.esz = d.size) :
    OS X o E H (some (.v (.c (.sl bd (off + l * d.size) (h - l) (lo - l) ex)))) H :=
  os_val fun ι a w hi hr => by
    obtain ⟨L, c, hL, e1, g1, g2, g3, g4, g5⟩ := hr x (by cases lo' <;> cases hi' <;> simp [ho, Op.operands]) _ hx
    obtain ⟨ti, zv, i1, i2, _⟩ := ty_info he
    have hu := ty_slice ht
    have hz := hez ι w L hi hL
    refine ⟨.slice (some ⟨L.blk, L.off + (off + l * d.size), none⟩) (h - l) (c - l), ?_, L, c - l, hL, rfl, by omega, by omega, (fun e => by rw [g3 e]), by omega, ?_⟩
    · have ha : (if c = l then (⟨L.blk, L.off + off, none⟩ : Addr) else (⟨L.blk, L.off + off, none⟩ : Addr).add (l * ti.size)) = ⟨L.blk, L.off + (off + l * d.size), none⟩ := by
        by_cases hc : c = l
        · rw [if_pos hc]
          have : l = 0 := by omega
          subst this
          simp
        · rw [if_neg hc, add_addr, i2, Nat.add_assoc]
      have i3 : (l : Int) ≤ (h : Int) := by omega
      have i4 : (h : Int) ≤ (c : Int) := by omega
      have i5 : h ≤ c := by omega
      cases lo' with
      | none =>
        simp only at hl; subst hl
        cases hi' with
        | none =>
          simp only at hh; subst hh
          simp at ha
          simp [execOp, ho, e1, Instr.sliceAt, Instr.slice, run_underlying hu, Instr.sliceBounds, sizeOf, typeInfo, i1]
          by_cases hc : c = 0 <;> simp [hc, add_addr]
        | some y =>
          obtain ⟨e2, _⟩ : a.eval y = .int .i64 h ∧ _ := hr y (by simp [ho, Op.operands]) _ hh
          simp [execOp, ho, e1, e2, Instr.sliceAt, Instr.slice, run_underlying hu, Instr.sliceBounds, Instr.sliceBound, asIntOf, sizeOf, typeInfo, i1, i5]
          by_cases hc : c = 0 <;> simp [hc, add_addr]
      | some z =>
        obtain ⟨e3, _⟩ : a.eval z = .int .i64 l ∧ _ := hr z (by cases hi' <;> simp [ho, Op.operands]) _ hl
        cases hi' with
        | none =>
          simp only at hh; subst hh
          simp [execOp, ho, e1, e3, Instr.sliceAt, Instr.slice, run_underlying hu, Instr.sliceBounds, Instr.sliceBound, asIntOf, sizeOf, typeInfo, i1, h1]
          by_cases hc : c = l
          · rw [if_pos hc] at ha ⊢; simpa using ha
          · rw [if_neg hc] at ha ⊢; simpa using ha
        | some y =>
          obtain ⟨e2, _⟩ : a.eval y = .int .i64 h ∧ _ := hr y (by simp [ho, Op.operands]) _ hh
          simp [execOp, ho, e1, e2, e3, Instr.sliceAt, Instr.slice, run_underlying hu, Instr.sliceBounds, Instr.sliceBound, asIntOf, sizeOf, typeInfo, i1, h1, i5]
          by_cases hc : c = l
          · rw [if_pos hc] at ha ⊢; simpa using ha
          · rw [if_neg hc] at ha ⊢; simpa using ha
    · rw [hz] at g5 ⊢
      have : l * d.size + (c - l) * d.size = c * d.size := by rw [← Nat.add_mul]; congr 1; omega
      omega

theorem esz_of {bd : Bid} {k : Blk} {z : Nat} (hk : hget X H bd = some k) (hz : k.esz = z) : ∀ ι w L, Inv X ι H w → ι bd = some L → L.esz = z := by
  intro ι w L hi hL
  obtain ⟨_, _, _, _, _, _, h4, _⟩ := hi.blk bd L k hL hk
  rw [← h4, hz]

/-- x[n:] at the end: nothing. -/
theorem r_cut_end {t el off n lo : Nat} {ex : Bool} {bd : Bid} {x y : Operand} {s1 b1 : Nat} {zz1 : List ZC} {d : TD} (ho : o.op = .slice t x (some y) none none) (ht : X.ty t = some ⟨.slice el, s1, b1, zz1⟩) (he : X.ty el = some d) (hx : opv X E x = some (.v (.c (.sl bd off n lo ex))))
    (hl : opv X E y = some (I64 (n : Int))) (H : Heap) : OS X o E H (some (.v (.c .em))) H :=
  os_val fun ι a w hi hr => by
    obtain ⟨L, c, hL, e1, g1, g2, g3, g4, g5⟩ := hr x (by simp [ho, Op.operands]) _ hx
    obtain ⟨ti, zv, i1, i2, _⟩ := ty_info he
    have hu := ty_slice ht
    obtain ⟨e3, _⟩ : a.eval y = .int .i64 n ∧ _ := hr y (by simp [ho, Op.operands]) _ hl
    refine ⟨.slice (some (if c = n then (⟨L.blk, L.off + off, none⟩ : Addr) else (⟨L.blk, L.off + off, none⟩ : Addr).add (n * ti.size))) 0 (c - n), ?_, _, _, rfl⟩
    simp [execOp, ho, e1, e3, Instr.sliceAt, Instr.slice, run_underlying hu, Instr.sliceBounds, Instr.sliceBound, asIntOf, sizeOf, typeInfo, i1]
    by_cases hc : c = n
    · rw [if_pos hc]; simp [hc]
    · rw [if_neg hc]; simp [hc]

/-- A nil slice, cut. -/
theorem r_cut_nil {t el : Nat} {x : Operand} {lo' hi' : Option Operand} {s1 b1 : Nat} {zz1 : List ZC} {d : TD} (ho : o.op = .slice t x lo' hi' none) (ht : X.ty t = some ⟨.slice el, s1, b1, zz1⟩) (he : X.ty el = some d) (hx : opv X E x = some (.v (.c .ns)))
    (hl : match lo' with | some y => opv X E y = some (I64 0) | none => True) (hh : match hi' with | some y => opv X E y = some (I64 0) | none => True) (H : Heap) : OS X o E H (some (.v (.c .ns))) H :=
  os_val fun ι a w hi hr => by
    have e1 : a.eval x = .slice none 0 0 := hr x (by cases lo' <;> cases hi' <;> simp [ho, Op.operands]) _ hx
    obtain ⟨ti, zv, i1, i2, _⟩ := ty_info he
    have hu := ty_slice ht
    refine ⟨.slice none 0 0, ?_, rfl⟩
    cases lo' with
    | none =>
      cases hi' with
      | none => simp [execOp, ho, e1, Instr.sliceAt, Instr.slice, run_underlying hu, Instr.sliceBounds, sizeOf, typeInfo, i1]
      | some y =>
        obtain ⟨e2, _⟩ : a.eval y = .int .i64 0 ∧ _ := hr y (by simp [ho, Op.operands]) _ hh
        simp [execOp, ho, e1, e2, Instr.sliceAt, Instr.slice, run_underlying hu, Instr.sliceBounds, Instr.sliceBound, asIntOf, sizeOf, typeInfo, i1]
    | some z =>
      obtain ⟨e3, _⟩ : a.eval z = .int .i64 0 ∧ _ := hr z (by cases hi' <;> simp [ho, Op.operands]) _ hl
      cases hi' with
      | none => simp [execOp, ho, e1, e3, Instr.sliceAt, Instr.slice, run_underlying hu, Instr.sliceBounds, Instr.sliceBound, asIntOf, sizeOf, typeInfo, i1]
      | some y =>
        obtain ⟨e2, _⟩ : a.eval y = .int .i64 0 ∧ _ := hr y (by simp [ho, Op.operands]) _ hh
        simp [execOp, ho, e1, e2, e3, Instr.sliceAt, Instr.slice, run_underlying hu, Instr.sliceBounds, Instr.sliceBound, asIntOf, sizeOf, typeInfo, i1]

/-! ## Function values and calls -/

theorem r_func {f : FuncId} {cs : List Operand} {ps : List (Bid × Nat)} (ho : o.op = .makeFunc (.func f) #[] cs.toArray) (hc : opvs X E cs = some (ps.map fun p => .c (.pt p.1 p.2))) (H : Heap) : OS X o E H (some (.v (.c (.fn f ps)))) H :=
  os_val fun ι a w hi hr => by
    have hv := opvs_sound (ι := ι) (a := a) hc (fun x hx v hxv => hr x (by simp [ho, Op.operands]; exact hx) v hxv)
    refine ⟨.func (.func f) #[] (cs.map a.eval).toArray, by simp [execOp, ho, Instr.makeFunc], cs.map a.eval, rfl, ?_⟩
    generalize cs.map a.eval = vs at hv
    clear hc
    induction ps generalizing vs with
    | nil => cases hv; exact .nil
    | cons p ps ih =>
      cases hv with
      | cons h1 h2 => exact .cons h1 (ih _ h2)

/-- Arguments and what is captured. -/
def capt (ps : List (Bid × Nat)) : List AV := ps.map fun p => .c (.pt p.1 p.2)

theorem r_call {f : FuncId} {x : Operand} {args : List Operand} {ats : Array TypeId} {vs : List AV} {ps : List (Bid × Nat)} {r : AT} {H' : Heap} (ho : o.op = .call { callee := .value x, args := args.toArray, argTypes := ats }) (hx : opv X E x = some (.v (.c (.fn f ps)))) (hv : opvs X E args = some vs) (hf : X.fn f = true)
    (h : ACalls X f (vs ++ capt ps) H r H') : OS X o E H (some r) H' := by
  intro ι a w hi hn hr K Q hK
  obtain ⟨us, e1, hA⟩ := hr x (by simp [ho, Op.operands, Call.operands]) _ hx
  have hvs := opvs_sound (ι := ι) (a := a) hv (fun y hy v hyv => hr y (by simp [ho, Op.operands, Call.operands]; exact .inr hy) v hyv)
  have hcap : A2 (RV ι) (capt ps) us := by
    clear hx e1 h
    induction hA with
    | nil => exact .nil
    | cons h1 _ ih => exact .cons h1 ih
  have hok := X.fn_ok hf
  unfold fnOk at hok
  split at hok
  · rename_i fn hfn
    simp only [Bool.and_eq_true, Bool.not_eq_true'] at hok
    obtain ⟨hn1, hn2⟩ := hok
    have hn3 : ¬ fn.name = "runtime.NumGoroutine" := by simpa using hn1
    have hrun : (execOp a.eval o).run X.P w = .ok (.enter f ((args.map a.eval).toArray ++ us.toArray)) w := by
      cases hb : fn.body with
      | none => rw [hb] at hn2; cases hn2
      | some c =>
      simp only [execOp, ho, resolve]
      simp [e1, Deferred.ofValue, invoke, callFunc, program, Sem.run, hfn, hn3, hb]
    unfold Oper.wp
    rw [hrun]
    rw [Oper.upon_enter]
    have hc := h ι w ((args.map a.eval).toArray ++ us.toArray) hi hn (by simpa using A2.append hvs hcap)
    refine hc.mono ?_
    rintro e w' ⟨ι', r', rfl, hr', hs⟩
    exact hK ι' r' w' hs (fun v' e => by cases e; exact hr')
  · cases hok
end

/-! ## A function from its body -/

/-- What a function hands back. -/
def resA (X : Cx) (E : Env) (H : Heap) : List ResultVar → Option (List AV)
  | [] => some []
  | .tmp t :: rs => match E.get t, resA X E H rs with
    | some (.v v), some vs => some (v :: vs)
    | _, _ => none
  | .cell p t :: rs => match E.get p, X.ty t, resA X E H rs with
    | some (.v (.c (.pt b off))), some d, some vs => match ld X H b off d.size with
      | some cs => match ldv d cs with
        | some v => some (v :: vs)
        | none => none
      | none => none
    | _, _, _ => none
def resT : List AV → AT
  | [v] => .v v
  | vs => .tu vs

theorem resA_sound {X : Cx} {N : FK} {ι : Inj} {H : Heap} {w : World} {E : Env} {a : Act} (hi : Inv X ι H w) (he : RE N ι E a) : ∀ (rs : List ResultVar) (vs : List AV), resA X E H rs = some vs →
    ∃ ys : List Value, (rs.mapM fun
      | .tmp t => pure (a.tmps.getD t undef)
      | .cell p t => do loadVar t (← asAddr (a.tmps.getD p undef)) : Sem (List Value)).run X.P w = .ok ys w ∧ A2 (RV ι) vs ys
  | [], vs, h => by cases h; exact ⟨[], by simp, .nil⟩
  | .tmp t :: rs, vs, h => by
    simp only [resA] at h
    split at h
    · rename_i v vs' h1 h2
      cases h
      obtain ⟨ys, h3, h4⟩ := resA_sound hi he rs vs' h2
      obtain ⟨y, h5, h6⟩ := he.val t _ h1
      refine ⟨y :: ys, ?_, .cons h6 h4⟩
      simp at h3
      simp [List.mapM_cons, h3, h5]
    · cases h
  | .cell p t :: rs, vs, h => by
    simp only [resA] at h
    split at h
    · rename_i b off d vs' h1 h2 h3
      split at h
      · rename_i cs h4
        split at h
        · rename_i v h5
          cases h
          obtain ⟨ys, h6, h7⟩ := resA_sound hi he rs vs' h3
          obtain ⟨y, h8, L, hL, rfl⟩ := he.val p _ h1
          obtain ⟨z, h9, h10⟩ := ldv_run hi h2 hL h4 h5
          refine ⟨z :: ys, ?_, .cons h10 h7⟩
          simp at h6
          have hc : asAddr (a.tmps[p]?.getD undef) = pure ⟨L.blk, L.off + off, none⟩ := by simp [h8, ptv, asAddr]
          simp [List.mapM_cons, h6, hc, h9]
        · cases h
      · cases h
    · cases h

theorem results_sound {X : Cx} {N : FK} {ι : Inj} {H : Heap} {w : World} {E : Env} {a : Act} (hi : Inv X ι H w) (he : RE N ι E a) {fn : Func} {vs : List AV} (h : resA X E H fn.results.toList = some vs) :
    ∃ y, (results fn a.tmps).run X.P w = .ok y w ∧ RT ι (resT vs) y := by
  obtain ⟨ys, h1, h2⟩ := resA_sound hi he _ _ h
  unfold results
  rw [Array.mapM_eq_mapM_toList]
  refine ⟨if h : ys.length = 1 then ys.toArray[0]'(by simp [h]) else .tuple ys.toArray, ?_, ?_⟩
  · simp at h1
    simp
    exact congrArg (fun r => Result.andThen r (fun (a : List Value) w' => Result.ok (if h : a.length = 1 then a[0]'(by omega) else Value.tuple a.toArray) w')) h1
  · cases h2 with
    | nil => exact ⟨[], by simp, .nil⟩
    | cons ha hb =>
      cases hb with
      | nil => exact ha
      | cons hc hd => exact ⟨_, by simp, .cons ha (.cons hc hd)⟩
end Go.Aw
