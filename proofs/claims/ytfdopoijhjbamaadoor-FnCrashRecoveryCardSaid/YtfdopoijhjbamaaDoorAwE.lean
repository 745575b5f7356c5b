/- The rules of operations that make or turn memory. -/
import Derived.Test.YtfdopoijhjbamaaDoorAwD
namespace Go.Aw
open Go.RowKit
set_option linter.unusedVariables false
set_option linter.unusedSimpArgs false

section
variable {X : Cx} {H : Heap}
theorem hget_lt {n : Nat} {k : Blk} (h : hget X H (.l n) = some k) : n < H.length := by
  simp only [hget] at h
  by_cases hn : n < H.length
  · exact hn
  · rw [List.getElem?_eq_none (by omega)] at h; cases h
theorem hget_app {b : Bid} {L : Heap} (h : ∀ n, b = .l n → n < H.length) : hget X (H ++ L) b = hget X H b := by
  cases b with
  | l n => simp only [hget]; rw [List.getElem?_append_left (h n rfl)]
  | g n => rfl
theorem hget_new {k : Option Blk} : hget X (H ++ [k]) (.l H.length) = k := by simp [hget]
theorem hget_set_same {n : Nat} {k : Option Blk} (h : n < H.length) : hget X (H.set n k) (.l n) = k := by simp [hget, h]
theorem hget_set_ne {n : Nat} {k : Option Blk} {b : Bid} (h : b ≠ .l n) : hget X (H.set n k) b = hget X H b := by
  cases b with
  | l m => simp only [hget]; rw [List.getElem?_set_ne (fun e => h (by rw [e]))]
  | g m => rfl
theorem hget_beyond {b : Bid} {k : Option Blk} {kk : Blk} (h : hget X (H ++ [k]) b = some kk) (hb : b ≠ .l H.length) : hget X H b = some kk := by
  rw [hget_app] at h
  · exact h
  · intro n e
    subst e
    have := hget_lt h
    simp at this
    have : n ≠ H.length := fun e => hb (by rw [e])
    omega
end

def upd (ι : Inj) (n : Nat) (L : Loc) : Inj := fun b => if b = .l n then some L else ι b
theorem upd_same (ι : Inj) (n : Nat) (L : Loc) : upd ι n L (.l n) = some L := by simp [upd]
theorem upd_ne (ι : Inj) (n : Nat) (L : Loc) {b : Bid} (h : b ≠ .l n) : upd ι n L b = ι b := by simp [upd, h]
theorem upd_keeps {ι : Inj} {n : Nat} {L : Loc} (h : ι (.l n) = none) : ∀ b M, ι b = some M → upd ι n L b = some M := by
  intro b M hb
  rw [upd_ne]
  · exact hb
  · intro e; subst e; rw [h] at hb; cases hb

/-- A NEW BLOCK. -/
theorem step_newF {X : Cx} {ι : Inj} {H : Heap} {w w2 : World} {fr : Nat × Nat} {arr : Array Value} {t : TypeId} {cs : List AC} {esz : Nat} (hi : Inv X ι H w) (hn : ∀ n, H.length ≤ n → ι (.l n) = none) (hh : w2.heap = w.heap.push (.cells arr t fr)) (ho : w2.os = w.os) (ht : w2.tape = w.tape) (hp : w2.output = w.output)
    (hfr : fr = (0, 0) ∨ esz = 0 ∧ arr.size ≤ fr.1) (hl : cs.length ≤ arr.size) (hc : ∀ (j : Nat) c, cs[j]? = some c → ∃ v, arr[j]? = some v ∧ RC ι c v) :
    Step X ι H w (upd ι H.length ⟨w.heap.size, 0, arr.size, esz⟩) (H ++ [some ⟨cs, true, esz⟩]) w2 := by
  have hnn : ι (.l H.length) = none := hn _ (Nat.le_refl _)
  have hold : ∀ β, β < w.heap.size → w2.heap[β]? = w.heap[β]? := by
    intro β hβ
    rw [hh, Array.getElem?_push, if_neg (by omega)]
  have hnew : w2.heap[w.heap.size]? = some (.cells arr t fr) := by
    rw [hh]; simp
  refine ⟨⟨?_, ?_, ?_, ?_, ?_⟩, ⟨by simp, ?_⟩, ?_, ?_, ⟨ho, ht, hp, ?_, ?_⟩⟩
  · intro p hp'
    have h1 := hi.fix p hp'
    rw [hold _ (Array.getElem?_eq_some_iff.1 h1).1]
    exact h1
  · intro n; rw [upd_ne _ _ _ (by simp)]; exact hi.glo n
  · intro b L k hb hk
    by_cases e : b = .l H.length
    · subst e
      rw [upd_same] at hb
      rw [hget_new] at hk
      cases hb
      cases hk
      refine ⟨arr, t, fr, hnew, rfl, by simpa using hl, rfl, fun _ => hfr, ?_⟩
      intro j c hj
      obtain ⟨v, h1, h2⟩ := hc j c hj
      exact ⟨v, by simpa using h1, h2.mono (upd_keeps hnn)⟩
    · rw [upd_ne _ _ _ e] at hb
      obtain ⟨arr', t', fr, h1, h2, h3, h4, h5, h6⟩ := hi.blk b L k hb (hget_beyond hk e)
      refine ⟨arr', t', fr, by rw [hold _ (Array.getElem?_eq_some_iff.1 h1).1]; exact h1, h2, h3, h4, h5, ?_⟩
      intro j c hj
      obtain ⟨v, h7, h8⟩ := h6 j c hj
      exact ⟨v, h7, h8.mono (upd_keeps hnn)⟩
  · intro b L k hb hk hok p hp'
    by_cases e : b = .l H.length
    · subst e
      rw [upd_same] at hb
      cases hb
      have h1 := hi.fix p hp'
      have := (Array.getElem?_eq_some_iff.1 h1).1
      simp only
      omega
    · rw [upd_ne _ _ _ e] at hb
      exact hi.ownK b L k hb (hget_beyond hk e) hok p hp'
  · have lt : ∀ b L k, ι b = some L → hget X H b = some k → L.blk < w.heap.size := fun b L k hb hk => by
      obtain ⟨arr', t', fr, h1, _⟩ := hi.blk b L k hb hk
      exact (Array.getElem?_eq_some_iff.1 h1).1
    intro b b' L L' k k' hb hb' hk hk' hok heq
    by_cases e : b = .l H.length
    · subst e
      by_cases e' : b' = .l H.length
      · exact e'.symm
      · rw [upd_ne _ _ _ e'] at hb'
        rw [upd_same] at hb
        cases hb
        have := lt b' L' k' hb' (hget_beyond hk' e')
        simp only at heq
        omega
    · rw [upd_ne _ _ _ e] at hb
      by_cases e' : b' = .l H.length
      · subst e'
        rw [upd_same] at hb'
        cases hb'
        have := lt b L k hb (hget_beyond hk e)
        simp only at heq
        omega
      · rw [upd_ne _ _ _ e'] at hb'
        exact hi.sep b b' L L' k k' hb hb' (hget_beyond hk e) (hget_beyond hk' e') hok heq
  · intro n k' hlt hk hok
    rw [hget_app (fun m e => by cases e; exact hlt)] at hk
    exact ⟨k', hk, hok⟩
  · intro b hb
    rw [upd_ne]
    intro e
    have := hb H.length e
    simp at this
    omega
  · intro n L h1 h2 hL
    have : n = H.length := by simp at h2; omega
    subst this
    rw [upd_same] at hL
    cases hL
    exact .inl (Nat.le_refl _)
  · rw [hh]; simp
  · intro β hβ _
    exact hold β hβ

theorem step_new {X : Cx} {ι : Inj} {H : Heap} {w w1 : World} (hi : Inv X ι H w) (hn : ∀ n, H.length ≤ n → ι (.l n) = none) (hh : w1.heap = w.heap) (ho : w1.os = w.os) (ht : w1.tape = w.tape) (hp : w1.output = w.output)
    {arr : Array Value} {t : TypeId} {cs : List AC} {esz : Nat} (hl : cs.length ≤ arr.size) (hc : ∀ (j : Nat) c, cs[j]? = some c → ∃ v, arr[j]? = some v ∧ RC ι c v) :
    Step X ι H w (upd ι H.length ⟨w.heap.size, 0, arr.size, esz⟩) (H ++ [some ⟨cs, true, esz⟩]) (w1.alloc (.cells arr t)) :=
  step_newF hi hn (fr := (0, 0)) (t := t) (by show w1.heap.push _ = _; rw [hh]) ho ht hp (.inl rfl) hl hc

/-- WHAT AN OWN BLOCK HOLDS IS TURNED. -/
theorem step_set {X : Cx} {ι : Inj} {H : Heap} {w : World} (hi : Inv X ι H w) (hn : ∀ n, H.length ≤ n → ι (.l n) = none) {n : Nat} {L : Loc} {k k' : Blk} (hL : ι (.l n) = some L) (hk : hget X H (.l n) = some k) (hok : k.own = true)
    {arr arr' : Array Value} {t : TypeId} {fr : Nat × Nat} (hw : w.heap[L.blk]? = some (.cells arr t fr)) (hs : arr'.size = arr.size) (hsz : arr.size = L.size) (hl : L.off + k'.cells.length ≤ L.size) (hez : k'.esz = L.esz) (hf : fr = (0, 0) ∨ k'.esz = 0 ∧ arr.size ≤ fr.1)
    (hc : ∀ (j : Nat) c, k'.cells[j]? = some c → ∃ v, arr'[L.off + j]? = some v ∧ RC ι c v) :
    Step X ι H w ι (H.set n (some k')) (w.setRow L.blk arr') := by
  have hlt := hget_lt hk
  have hnew : (w.setRow L.blk arr').heap[L.blk]? = some (.cells arr' t fr) := setRow_heap w L.blk arr arr' t fr hw
  have hold : ∀ β, β ≠ L.blk → (w.setRow L.blk arr').heap[β]? = w.heap[β]? := fun β h => setRow_other w L.blk β arr' h
  have hsize : (w.setRow L.blk arr').heap.size = w.heap.size := by simp [World.setRow]
  have hgs : ∀ b kk, hget X (H.set n (some k')) b = some kk → b ≠ .l n → hget X H b = some kk := fun b kk h e => by rwa [hget_set_ne e] at h
  refine ⟨⟨?_, hi.glo, ?_, ?_, ?_⟩, ⟨by simp, ?_⟩, fun _ _ => rfl, ?_, ⟨rfl, rfl, rfl, by rw [hsize]; exact Nat.le_refl _, ?_⟩⟩
  · intro p hp
    rw [hold _ (hi.ownK _ L k hL hk hok p hp)]
    exact hi.fix p hp
  · intro b M kk hb hkk
    by_cases e : b = .l n
    · subst e
      rw [hL] at hb
      cases hb
      rw [hget_set_same hlt] at hkk
      cases hkk
      exact ⟨arr', t, fr, hnew, by rw [hs, hsz], hl, hez, fun _ => hs ▸ hf, hc⟩
    · obtain ⟨a1, t1, f1, h1, h2, h3, h4, h5, h6⟩ := hi.blk b M kk hb (hgs b kk hkk e)
      refine ⟨a1, t1, f1, ?_, h2, h3, h4, h5, h6⟩
      rw [hold _ (fun e2 => e (hi.sep (.l n) b L M k kk hL hb hk (hgs b kk hkk e) hok e2.symm).symm)]
      exact h1
  · intro b M kk hb hkk hok' p hp
    by_cases e : b = .l n
    · subst e
      rw [hL] at hb
      cases hb
      exact hi.ownK _ L k hL hk hok p hp
    · exact hi.ownK b M kk hb (hgs b kk hkk e) hok' p hp
  · intro b b' M M' kk kk' hb hb' hkk hkk' hok' heq
    by_cases e : b = .l n
    · subst e
      rw [hL] at hb
      cases hb
      by_cases e' : b' = .l n
      · exact e'.symm
      · exact hi.sep _ b' L M' k kk' hL hb' hk (hgs b' kk' hkk' e') hok heq
    · by_cases e' : b' = .l n
      · subst e'
        rw [hL] at hb'
        cases hb'
        exact hi.sep b _ M L kk k hb hL (hgs b kk hkk e) hk hok' heq
      · exact hi.sep b b' M M' kk kk' hb hb' (hgs b kk hkk e) (hgs b' kk' hkk' e') hok' heq
  · intro m k2 hm hk2 hok2
    by_cases e : m = n
    · subst e; exact ⟨k, hk, hok⟩
    · exact ⟨k2, hgs _ _ hk2 (by simpa using e), hok2⟩
  · intro m M h1 h2
    simp at h2; omega
  · intro β hβ hno
    exact hold β (fun e => hno ⟨n, L, k, hL, hk, hok, e.symm⟩)
end Go.Aw
