/- A region that draws its order runs as in the text's order, where the check of AwN says so. -/
import Derived.Test.YtfdopoijhjbamaaDoorAwN
namespace Go.Aw
set_option linter.unusedVariables false
set_option linter.unusedSimpArgs false

/-- Names below n. -/
def rst (ι : Inj) (n : Nat) : Inj
  | .l m => if m < n then ι (.l m) else none
  | .g k => ι (.g k)
theorem rst_sub {ι : Inj} {n : Nat} {b : Bid} {L : Loc} (h : rst ι n b = some L) : ι b = some L := by
  cases b with
  | g k => exact h
  | l m => simp only [rst] at h; split at h; exact h; cases h
theorem rst_lt {ι : Inj} {n m : Nat} (h : m < n) : rst ι n (.l m) = ι (.l m) := by simp [rst, h]
theorem rst_ge {ι : Inj} {n m : Nat} (h : n ≤ m) : rst ι n (.l m) = none := by simp [rst]; omega
theorem rst_keep {ι : Inj} {n : Nat} {ids : List Bid} (h : Lo n ids) : ∀ b ∈ ids, ∀ L, ι b = some L → rst ι n b = some L := by
  intro b hb L hL
  cases b with
  | g k => exact hL
  | l m => rw [rst_lt (h m hb)]; exact hL

theorem Good.drew {X : Cx} {S : St} {ι : Inj} {H : Heap} {w : World} (h : Good X S ι H w) (n : Nat) : Good X S ι H { w with drawn := n } :=
  ⟨⟨h.inv.fix, h.inv.glo, h.inv.blk, h.inv.ownK, h.inv.sep⟩, h.le, h.old, h.none, h.new, ⟨h.fr.os, h.fr.tape, h.fr.output, h.fr.size, h.fr.keep⟩⟩

/-- A part of what is named. -/
theorem Inv.rst {X : Cx} {ι : Inj} {H R : Heap} {w : World} (h : Inv X ι (H ++ R) w) (hw : ∀ m L k, m < H.length → ι (.l m) = some L → hget X (H ++ R) (.l m) = some k → ∀ c ∈ k.cells, Lo H.length c.ids) : Inv X (rst ι H.length) H w := by
  have low : ∀ b L k, Aw.rst ι H.length b = some L → hget X H b = some k → hget X (H ++ R) b = some k := by
    intro b L k hb hk
    rw [hget_app]
    · exact hk
    · intro m e; subst e; exact hget_lt hk
  refine ⟨h.fix, h.glo, ?_, ?_, ?_⟩
  · intro b L k hb hk
    obtain ⟨arr, t, fr, h1, h2, h3, h4, h5, h6⟩ := h.blk b L k (rst_sub hb) (low b L k hb hk)
    refine ⟨arr, t, fr, h1, h2, h3, h4, h5, fun j c hj => ?_⟩
    obtain ⟨v, h7, h8⟩ := h6 j c hj
    refine ⟨v, h7, h8.ids (rst_keep ?_)⟩
    cases b with
    | g g =>
      intro m hm
      simp only [hget] at hk
      cases hg : X.G g with
      | none => rw [hg] at hk; cases hk
      | some p => rw [hg] at hk; cases hk; exact absurd hm (X.gpl g p hg c (List.mem_of_getElem? hj) m)
    | l m =>
      exact hw m L k (hget_lt hk) (rst_sub hb) (low _ L k hb hk) c (List.mem_of_getElem? hj)
  · exact fun b L k hb hk => h.ownK b L k (rst_sub hb) (low b L k hb hk)
  · exact fun b b' L L' k k' hb hb' hk hk' => h.sep b b' L L' k k' (rst_sub hb) (rst_sub hb') (low b L k hb hk) (low b' L' k' hb' hk')

/-- Names without memory. -/
theorem Inv.bare {X : Cx} {ι : Inj} {H : Heap} {w : World} (h : Inv X ι H w) (n : Nat) : Inv X (Aw.rst ι n) (List.replicate n none) w := by
  have no : ∀ b k, hget X (List.replicate n none) b = some k → ∃ g, b = .g g := by
    intro b k hk
    cases b with
    | g g => exact ⟨g, rfl⟩
    | l m =>
      simp only [hget, List.getElem?_replicate] at hk
      split at hk <;> cases hk
  refine ⟨h.fix, h.glo, ?_, ?_, ?_⟩
  · intro b L k hb hk
    obtain ⟨g, rfl⟩ := no b k hk
    obtain ⟨arr, t, fr, h1, h2, h3, h4, h5, h6⟩ := h.blk (.g g) L k hb hk
    refine ⟨arr, t, fr, h1, h2, h3, h4, h5, fun j c hj => ?_⟩
    obtain ⟨v, h7, h8⟩ := h6 j c hj
    refine ⟨v, h7, h8.ids (rst_keep ?_)⟩
    intro m hm
    simp only [hget] at hk
    cases hg : X.G g with
    | none => rw [hg] at hk; cases hk
    | some p => rw [hg] at hk; cases hk; exact absurd hm (X.gpl g p hg c (List.mem_of_getElem? hj) m)
  · intro b L k hb hk
    obtain ⟨g, rfl⟩ := no b k hk
    exact h.ownK (.g g) L k hb hk
  · intro b b' L L' k k' hb hb' hk hk' ho
    obtain ⟨g, rfl⟩ := no b k hk
    simp only [hget] at hk
    cases hg : X.G g with
    | none => rw [hg] at hk; cases hk
    | some p => rw [hg] at hk; cases hk; cases ho

/-- Nothing of one's own, nothing turned. -/
theorem Good.quiet {X : Cx} {S : St} {ι ι1 ι2 : Inj} {H : Heap} {w w' : World} {n : Nat} (h : Good X S ι H w) (s : Step X ι1 (List.replicate n Option.none) w ι2 (List.replicate n Option.none) w') : Good X S ι H w' := by
  have no : ∀ β, ¬ OwnAt X ι1 (List.replicate n Option.none) β := by
    rintro β ⟨m, L, k, h1, h2, _⟩
    simp only [hget, List.getElem?_replicate] at h2
    split at h2 <;> cases h2
  have keep : ∀ β, β < w.heap.size → w'.heap[β]? = w.heap[β]? := fun β hβ => s.fr.keep β hβ (no β)
  refine ⟨⟨s.inv.fix, h.inv.glo, ?_, h.inv.ownK, h.inv.sep⟩, h.le, h.old, h.none, h.new, ⟨s.fr.os.trans h.fr.os, s.fr.tape.trans h.fr.tape, s.fr.output.trans h.fr.output, Nat.le_trans h.fr.size s.fr.size, ?_⟩⟩
  · intro b L k hb hk
    obtain ⟨arr, t, fr, h1, h2⟩ := h.inv.blk b L k hb hk
    exact ⟨arr, t, fr, by rw [keep _ (Array.getElem?_eq_some_iff.1 h1).1]; exact h1, h2⟩
  · intro β hβ hno
    rw [keep β (Nat.lt_of_lt_of_le hβ h.fr.size)]
    exact h.fr.keep β hβ hno

/-- Room for names that nothing bears yet. -/
theorem Good.ext {X : Cx} {S : St} {ι : Inj} {H R : Heap} {w : World} (h : Good X S ι H w) : Good X S ι (H ++ R) w := by
  have low : ∀ b L k, ι b = some L → hget X (H ++ R) b = some k → hget X H b = some k := by
    intro b L k hb hk
    rw [hget_app] at hk
    · exact hk
    · intro m e
      subst e
      exact Nat.lt_of_not_le fun hle => by rw [h.none m hle] at hb; cases hb
  refine ⟨⟨h.inv.fix, h.inv.glo, ?_, ?_, ?_⟩, ⟨?_, ?_⟩, h.old, ?_, h.new, h.fr⟩
  · exact fun b L k hb hk => h.inv.blk b L k hb (low b L k hb hk)
  · exact fun b L k hb hk => h.inv.ownK b L k hb (low b L k hb hk)
  · exact fun b b' L L' k k' hb hb' hk hk' => h.inv.sep b b' L L' k k' hb hb' (low b L k hb hk) (low b' L' k' hb' hk')
  · have := h.le.len; simp; omega
  · intro n k' hn hk ho
    rw [hget_app (fun m e => by cases e; have := h.le.len; omega)] at hk
    exact h.le.own n k' hn hk ho
  · intro n hn
    simp only [List.length_append] at hn
    exact h.none n (by omega)
end Go.Aw
