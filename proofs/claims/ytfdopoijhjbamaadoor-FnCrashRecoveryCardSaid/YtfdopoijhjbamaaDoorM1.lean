/- The log in plain words: lines of records, and what reading them gives. -/
import Derived.Lib.ItoaNum
import Derived.Lib.Strings
import Derived.Lib.IndexMore
import Derived.Lib.IndexAny
import Derived.Lib.IndexBytes
namespace Go.Proofs.YtfdopoijhjbamaaDoor
set_option linter.unusedSimpArgs false
set_option linter.unusedVariables false
/-- The parts of a text between bytes. -/
def splitF (c : UInt8) : List UInt8 → List UInt8 → List (List UInt8)
  | cur, [] => [cur]
  | cur, b :: l => if b = c then cur :: splitF c [] l else splitF c (cur ++ [b]) l
/-- What stands ahead of the first byte c, behind it, and whether there is one. -/
def cutF (c : UInt8) : List UInt8 → List UInt8 × List UInt8 × Bool
  | [] => ([], [], false)
  | b :: l => if b = c then ([], l, true) else (b :: (cutF c l).1, (cutF c l).2.1, (cutF c l).2.2)
theorem cutF_hit (c : UInt8) (l : List UInt8) : cutF c (c :: l) = ([], l, true) := by simp [cutF]
theorem cutF_ne {b c : UInt8} (h : ¬ b = c) (l : List UInt8) : cutF c (b :: l) = (b :: (cutF c l).1, (cutF c l).2.1, (cutF c l).2.2) := by simp [cutF, h]
theorem cut_one (c : UInt8) : ∀ l : List UInt8, Lib.cut l [c] = cutF c l
  | [] => by simp [Lib.cut, Lib.index_one, Lib.indexByte, cutF]
  | b :: l => by
    have ih := cut_one c l
    have hg : -1 ≤ Lib.indexByte l c := by have := Lib.index_ge l [c]; rwa [Lib.index_one] at this
    by_cases h : b = c
    · subst h
      have hi : Lib.indexByte (b :: l) b = 0 := by simp [Lib.indexByte]
      rw [cutF_hit]
      unfold Lib.cut
      simp [Lib.index_one, hi]
    · have hb : (b == c) = false := by simpa using h
      rw [cutF_ne h, ← ih]
      by_cases h1 : Lib.indexByte l c = -1
      · have hi : Lib.indexByte (b :: l) c = -1 := by simp [Lib.indexByte, h, h1]
        unfold Lib.cut
        simp [Lib.index_one, hi, h1]
      · obtain ⟨n, hn⟩ : ∃ n : Nat, Lib.indexByte l c = n := ⟨(Lib.indexByte l c).toNat, by omega⟩
        have hi : Lib.indexByte (b :: l) c = ((n + 1 : Nat) : Int) := by
          have h2 : ¬ ((n : Int) = -1) := by omega
          simp [Lib.indexByte, h, hn, h2]
        unfold Lib.cut
        simp only [Lib.index_one, hi, hn]
        rw [if_pos (by omega), if_pos (by omega), Int.toNat_natCast, Int.toNat_natCast]
        simp
theorem cutF_len (c : UInt8) : ∀ l, (cutF c l).1.length ≤ l.length ∧ (cutF c l).2.1.length ≤ l.length
  | [] => by simp [cutF]
  | b :: l => by
    have := cutF_len c l
    simp only [cutF]
    split <;> simp <;> omega
theorem cutF_yes (c : UInt8) : ∀ l, (cutF c l).2.2 = true → l = (cutF c l).1 ++ c :: (cutF c l).2.1
  | [], h => by simp [cutF] at h
  | b :: l, h => by
    by_cases e : b = c
    · subst e; rw [cutF_hit]; rfl
    · rw [cutF_ne e] at h ⊢
      have := cutF_yes c l h
      rw [List.cons_append, ← this]
theorem cutF_no (c : UInt8) : ∀ l, (cutF c l).2.2 = false → (cutF c l).1 = l
  | [], h => rfl
  | b :: l, h => by
    by_cases e : b = c
    · subst e; rw [cutF_hit] at h; cases h
    · rw [cutF_ne e] at h ⊢
      rw [cutF_no c l h]
theorem cutF_not (c : UInt8) : ∀ l, c ∉ (cutF c l).1
  | [] => by simp [cutF]
  | b :: l => by
    have := cutF_not c l
    by_cases h : b = c
    · subst h; rw [cutF_hit]; simp
    · rw [cutF_ne h]; simp only [List.mem_cons, not_or]; exact ⟨fun e => h e.symm, this⟩
theorem cutF_app (c : UInt8) (b : List UInt8) : ∀ a, c ∉ a → cutF c (a ++ c :: b) = (a, b, true)
  | [], _ => by simp [cutF]
  | x :: a, h => by
    simp only [List.mem_cons, not_or] at h
    rw [List.cons_append]
    rw [cutF_ne (fun e => h.1 e.symm), cutF_app c b a h.2]
theorem cutF_none (c : UInt8) : ∀ a, c ∉ a → cutF c a = (a, [], false)
  | [], _ => rfl
  | x :: a, h => by
    simp only [List.mem_cons, not_or] at h
    rw [cutF_ne (fun e => h.1 e.symm), cutF_none c a h.2]
theorem cutF_found (c : UInt8) (l : List UInt8) : (cutF c l).2.2 = decide (c ∈ l) := by
  cases h : (cutF c l).2.2 with
  | true =>
    symm; rw [decide_eq_true_eq, cutF_yes c l h]; simp
  | false =>
    symm; rw [decide_eq_false_iff_not]
    intro hm
    rw [← cutF_no c l h] at hm
    exact cutF_not c l hm
theorem splitF_head (c : UInt8) : ∀ l cur, (splitF c cur l)[0]? = some (cur ++ (cutF c l).1)
  | [], cur => by simp [splitF, cutF]
  | b :: l, cur => by
    simp only [splitF]
    by_cases h : b = c
    · subst h; rw [cutF_hit]; simp
    · rw [cutF_ne h, if_neg h, splitF_head c l]; simp
theorem splitF_pos (c : UInt8) : ∀ l cur, 1 ≤ (splitF c cur l).length
  | [], cur => by simp [splitF]
  | b :: l, cur => by
    simp only [splitF]
    split
    · simp
    · exact splitF_pos c l _
theorem splitF_two (c : UInt8) : ∀ l cur, decide ((splitF c cur l).length < 2) = !(cutF c l).2.2
  | [], cur => by simp [splitF, cutF]
  | b :: l, cur => by
    by_cases h : b = c
    · subst h
      have := splitF_pos b l []
      have e : splitF b cur (b :: l) = cur :: splitF b [] l := by simp [splitF]
      rw [cutF_hit, e]; simp; omega
    · have e : splitF c cur (b :: l) = splitF c (cur ++ [b]) l := by simp [splitF, h]
      rw [cutF_ne h, e]; exact splitF_two c l _
theorem splitF_len (c : UInt8) : ∀ l cur, (splitF c cur l).length ≤ l.length + 1
  | [], cur => by simp [splitF]
  | b :: l, cur => by
    simp only [splitF]
    split
    · have := splitF_len c l []; simp; omega
    · have := splitF_len c l (cur ++ [b]); simp; omega
/-- A step through the text: what is done, what runs. -/
def doneF (c : UInt8) : List UInt8 → List (List UInt8) × List UInt8
  | l => l.foldl (fun s b => if b = c then (s.1 ++ [s.2], []) else (s.1, s.2 ++ [b])) ([], [])
theorem splitF_done (c : UInt8) : ∀ (l : List UInt8) (out : List (List UInt8)) (cur : List UInt8), out ++ splitF c cur l = (l.foldl (fun s b => if b = c then (s.1 ++ [s.2], []) else (s.1, s.2 ++ [b])) (out, cur)).1 ++ [(l.foldl (fun s b => if b = c then (s.1 ++ [s.2], []) else (s.1, s.2 ++ [b])) (out, cur)).2]
  | [], out, cur => by simp [splitF]
  | b :: l, out, cur => by
    simp only [splitF, List.foldl_cons]
    by_cases h : b = c
    · rw [if_pos h, if_pos h, ← splitF_done c l]; simp
    · rw [if_neg h, if_neg h, ← splitF_done c l]
theorem splitF_all (c : UInt8) (l : List UInt8) : splitF c [] l = (doneF c l).1 ++ [(doneF c l).2] := by
  have := splitF_done c l [] []
  simpa [doneF] using this
theorem doneF_snoc (c : UInt8) (l : List UInt8) (b : UInt8) : doneF c (l ++ [b]) = if b = c then ((doneF c l).1 ++ [(doneF c l).2], []) else ((doneF c l).1, (doneF c l).2 ++ [b]) := by
  simp [doneF, List.foldl_append]
theorem doneF_len (c : UInt8) (l : List UInt8) : (doneF c l).1.length ≤ l.length := by
  have h := splitF_len c l []
  rw [splitF_all] at h
  simp at h
  exact h

/-- Sums of the bytes. -/
def sumF (l : List UInt8) : Int := l.foldl (fun h c => (41 * h + (c.toNat : Int) + 1).tmod 999979) 7
theorem sumF_snoc (l : List UInt8) (c : UInt8) : sumF (l ++ [c]) = (41 * sumF l + (c.toNat : Int) + 1).tmod 999979 := by simp [sumF, List.foldl_append]
theorem sumF_bd (l : List UInt8) : 0 ≤ sumF l ∧ sumF l ≤ 999978 := by
  obtain ⟨n, hn⟩ : ∃ n, l.length = n := ⟨_, rfl⟩
  induction n generalizing l with
  | zero => have := List.length_eq_zero_iff.1 hn; subst this; simp [sumF]
  | succ n ih =>
    obtain ⟨l', c, rfl⟩ : ∃ l' c, l = l' ++ [c] := ⟨l.dropLast, l.getLast (by intro e; simp [e] at hn), (List.dropLast_concat_getLast _).symm⟩
    have := ih l' (by simpa using hn)
    rw [sumF_snoc]
    have hc := c.toNat_lt
    rw [Int.tmod_eq_emod_of_nonneg (by omega)]
    omega
def sealF (l : List UInt8) : List UInt8 := l ++ 35 :: Lib.itoa (sumF l)
/-- A record. -/
structure Rc where
  q : List UInt8
  a : List UInt8
  deriving DecidableEq
def okB (b : UInt8) : Bool := decide (32 ≤ b.toNat) && decide (b.toNat ≤ 126)
def okQ (l : List UInt8) : Bool := decide (1 ≤ l.length) && decide (l.length ≤ 160) && l.all okB && !l.contains 35 && !l.contains 64
def okA (l : List UInt8) : Bool := decide (l.length ≤ 200) && l.all okB && !l.contains 35
def okRc (e : Rc) : Bool := okQ e.q && okA e.a
def lineF (k : Int) (e : Rc) : List UInt8 := sealF (Lib.itoa k ++ 32 :: (e.q ++ 64 :: e.a)) ++ [10]
theorem itoa_digit {n : Int} (h : 0 ≤ n) : ∀ b ∈ Lib.itoa n, 48 ≤ b.toNat ∧ b.toNat ≤ 57 := by
  unfold Lib.itoa
  rw [if_neg (by omega)]
  generalize n.toNat = u
  induction u using Nat.strongRecOn with
  | ind u ih =>
    intro b hb
    rw [Lib.decDigits] at hb
    split at hb
    · simp only [List.mem_singleton] at hb; subst hb; rw [UInt8.toNat_ofNat']; omega
    · simp only [List.mem_append, List.mem_singleton] at hb
      rcases hb with hb | hb
      · exact ih (u / 10) (by omega) b hb
      · subst hb; rw [UInt8.toNat_ofNat']; omega
theorem digits_len : ∀ (d u : Nat), u < 10 ^ (d + 1) → (Lib.decDigits u).length ≤ d + 1
  | 0, u, h => by rw [Lib.decDigits, dif_pos (by omega)]; simp
  | d + 1, u, h => by
    rw [Lib.decDigits]
    split
    · simp
    · have := digits_len d (u / 10) (by rw [Nat.pow_succ] at h; omega)
      simp; omega
theorem itoa_len {n : Int} (h : 0 ≤ n) (h1 : n ≤ 999999) : (Lib.itoa n).length ≤ 6 := by
  unfold Lib.itoa
  rw [if_neg (by omega)]
  exact digits_len 5 _ (by omega)
theorem not_digit {n : Int} (h : 0 ≤ n) {c : UInt8} (hc : c.toNat < 48 ∨ 57 < c.toNat) : c ∉ Lib.itoa n := fun hm => by have := itoa_digit h c hm; omega
theorem not_in {l : List UInt8} {c : UInt8} (h : (!l.contains c) = true) : c ∉ l := by simpa using h
/-- What a line of a valid record gives back. -/
theorem seal_cut {t : List UInt8} (h : (35 : UInt8) ∉ t) : cutF 35 (sealF t) = (t, Lib.itoa (sumF t), true) := cutF_app _ _ _ h
theorem text_35 {k : Int} {e : Rc} (hk : 0 ≤ k) (h : okRc e = true) : (35 : UInt8) ∉ Lib.itoa k ++ 32 :: (e.q ++ 64 :: e.a) := by
  simp only [okRc, okQ, okA, Bool.and_eq_true] at h
  have h1 := not_in h.1.1.2
  have h2 := not_in h.2.2
  simp only [List.mem_append, List.mem_cons, not_or]
  exact ⟨not_digit hk (by decide), by decide, h1, by decide, h2⟩
theorem text_cut {k : Int} {e : Rc} (hk : 0 ≤ k) : cutF 32 (Lib.itoa k ++ 32 :: (e.q ++ 64 :: e.a)) = (Lib.itoa k, e.q ++ 64 :: e.a, true) := cutF_app _ _ _ (not_digit hk (by decide))
theorem rest_cut {e : Rc} (h : okRc e = true) : cutF 64 (e.q ++ 64 :: e.a) = (e.q, e.a, true) := by
  simp only [okRc, okQ, okA, Bool.and_eq_true] at h
  exact cutF_app _ _ _ (not_in h.1.2)
theorem lineF_inj {k : Int} {e e' : Rc} (hk : 0 ≤ k) (h : okRc e = true) (h' : okRc e' = true) (he : lineF k e = lineF k e') : e = e' := by
  have h1 := List.append_cancel_right he
  have h2 := congrArg (cutF 35) h1
  rw [seal_cut (text_35 hk h), seal_cut (text_35 hk h')] at h2
  have h3 := congrArg Prod.fst h2
  have h4 := congrArg (cutF 32) h3
  simp only [text_cut hk] at h4
  have h5 := congrArg (fun x => cutF 64 x.2.1) h4
  simp only [rest_cut h, rest_cut h'] at h5
  cases e; cases e'; simp_all
theorem line_len {k : Int} {e : Rc} (hk : 0 ≤ k) (hk2 : k ≤ 999999) (h : okRc e = true) : (lineF k e).length ≤ 400 := by
  simp only [okRc, okQ, okA, Bool.and_eq_true, decide_eq_true_eq] at h
  have h1 := itoa_len hk hk2
  have h2 := sumF_bd (Lib.itoa k ++ 32 :: (e.q ++ 64 :: e.a))
  have h3 := itoa_len h2.1 (by omega)
  simp only [lineF, sealF, List.length_append, List.length_cons, List.length_nil]
  omega
/-- The record of a line without its newline, if it is one of number k. -/
noncomputable def accF (k : Int) (s : List UInt8) : Option Rc := open Classical in if h : ∃ e, okRc e = true ∧ lineF k e = s ++ [10] then some h.choose else none
theorem accF_some {k : Int} {s : List UInt8} {e : Rc} (hk : 0 ≤ k) : accF k s = some e ↔ okRc e = true ∧ lineF k e = s ++ [10] := by
  unfold accF
  constructor
  · intro h
    split at h
    · rename_i hx; cases h; exact hx.choose_spec
    · cases h
  · rintro ⟨h1, h2⟩
    have hx : ∃ e, okRc e = true ∧ lineF k e = s ++ [10] := ⟨e, h1, h2⟩
    rw [dif_pos hx]
    have := hx.choose_spec
    rw [lineF_inj hk this.1 h1 (this.2.trans h2.symm)]
/-- Records from the start of a text, from number k on, n of them at the most. -/
noncomputable def openF : Nat → Nat → List UInt8 → List Rc × Nat
  | 0, _, _ => ([], 0)
  | n + 1, k, s => if (cutF 10 s).2.2 then (match accF k (cutF 10 s).1 with
    | some e => (e :: (openF n (k + 1) (cutF 10 s).2.1).1, (cutF 10 s).1.length + 1 + (openF n (k + 1) (cutF 10 s).2.1).2)
    | none => ([], 0)) else ([], 0)
noncomputable def logF (s : List UInt8) : List Rc × Nat := openF 60 0 s
end Go.Proofs.YtfdopoijhjbamaaDoor
