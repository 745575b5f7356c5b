/- Functions on strings, one by one. -/
import Derived.Test.YtfdopoijhjbamaaDoorL0
import Derived.Test.YtfdopoijhjbamaaDoorM1
import Derived.Test.YtfdopoijhjbamaaDoorAwZ
import Derived.Test.YtfdopoijhjbamaaDoorShelf
namespace Go.Proofs.YtfdopoijhjbamaaDoor
open Go.Aw Go.RowKit
set_option maxRecDepth 100000
set_option linter.unusedSimpArgs false
set_option linter.unusedVariables false
theorem max_of {K : List (Nat × Go.Obj)} [hK : Nonempty (KOk K)] {ι : Inj} {H : Heap} {w : World} (hi : Inv (cx K) ι H w) : ∃ m, w.cell? ⟨0, 0, none⟩ = some (.int .i64 m) := by
  obtain ⟨⟨⟨m, arr, t, fr, hm, ha⟩, _⟩⟩ := hK
  have hf := hi.fix _ hm
  exact ⟨m, by simp only at hf; simp [World.cell?, hf, ha]⟩
theorem tab_of {K : List (Nat × Go.Obj)} [hK : Nonempty (KOk K)] {ι : Inj} {H : Heap} {w : World} (hi : Inv (cx K) ι H w) : Lib.TabIs Tryd.prog w "internal/strconv.uint64pow10" .u64 Lib.pow10Tab := by
  obtain ⟨⟨_, arr, t, fr, hm, rfl⟩⟩ := hK
  have hf := hi.fix _ hm
  unfold Lib.TabIs World.var?
  rw [show Tryd.prog.globalNamed "internal/strconv.uint64pow10" = some 1 by kernel_rfl]
  simp only at hf
  simp [hf]
theorem c58 {K : List (Nat × Go.Obj)} [hK : Nonempty (KOk K)] (H : Heap) {n : Int} (h0 : 0 ≤ n) (h1 : n ≤ 9223372036854775807) : ACalls (cx K) 58 [aI n] H (Vs (bs (Lib.itoa n))) H :=
  ACalls.of_below fun ι w vs hi ha => by
    obtain rfl := args1 ha
    refine (Tryd.strconv_Itoa n (by omega) h1 w (tab_of hi)).mono ?_
    rintro e w' ⟨rfl, k, os, rfl⟩
    exact ⟨_, rfl, ⟨rfl, rfl⟩, Lib.below_grow _ w (Nat.le_refl _) k os⟩
theorem below_drewN (w : World) : ∀ n, Below w.heap.size w (w.drewN n)
  | n => ⟨rfl, rfl, rfl, Nat.le_refl _, fun _ _ => rfl⟩
theorem c38 {K : List (Nat × Go.Obj)} [hK : Nonempty (KOk K)] (H : Heap) {l : List UInt8} {c : UInt8} (hl : l.length < 4294967281) : ACalls (cx K) 38 [aS (bs l), aS (bs [c])] H (.tu [aS (bs (cutF c l).1), aS (bs (cutF c l).2.1), aB (cutF c l).2.2]) H :=
  ACalls.of_below fun ι w vs hi ha => by
    obtain rfl := args2 ha
    obtain ⟨m, hm⟩ := max_of hi
    have := Tryd.strings_Cut (bs l) (bs [c]) m w hl hm
    rw [show (bs l).data.toList = l from rfl, show (bs [c]).data.toList = [c] from rfl, cut_one] at this
    refine this.mono ?_
    rintro e w' ⟨rfl, k, rfl⟩
    exact ⟨_, rfl, ⟨_, rfl, .cons ⟨rfl, rfl⟩ (.cons ⟨rfl, rfl⟩ (.cons ⟨rfl, rfl⟩ .nil))⟩, below_drewN w k⟩
theorem index_mem (c : UInt8) : ∀ l : List UInt8, decide (0 ≤ Lib.indexByte l c) = l.contains c
  | [] => rfl
  | b :: l => by
    have ih := index_mem c l
    have hg : -1 ≤ Lib.indexByte l c := by have := Lib.index_ge l [c]; rwa [Lib.index_one] at this
    by_cases h : b = c
    · subst h; simp [Lib.indexByte]
    · have h' : ¬ c = b := fun e => h e.symm
      rw [Bool.eq_iff_iff] at ih ⊢
      simp only [decide_eq_true_eq, List.contains_eq_mem] at ih
      simp only [decide_eq_true_eq, List.contains_eq_mem, List.mem_cons, h', false_or, ← ih, Lib.indexByte]
      by_cases h1 : Lib.indexByte l c = -1
      · simp [h, h1]
      · simp [h, h1]; omega
theorem c68 {K : List (Nat × Go.Obj)} [hK : Nonempty (KOk K)] (H : Heap) {l : List UInt8} {c : UInt8} : ACalls (cx K) 68 [aS (bs l), aS (bs [c])] H (Vb (l.contains c)) H :=
  ACalls.of_below fun ι w vs hi ha => by
    obtain rfl := args2 ha
    have := Tryd.strings_Contains_one (bs l) c w
    rw [show (bs l).data.toList = l from rfl, index_mem] at this
    refine this.mono ?_
    rintro e w' ⟨rfl, rfl⟩
    exact ⟨_, rfl, ⟨rfl, rfl⟩, Below.refl _ _⟩
theorem any_mem (ch : List UInt8) : ∀ l : List UInt8, Lib.containsAny l ch = l.any fun b => ch.contains b
  | [] => rfl
  | b :: l => by
    have ih := any_mem ch l
    have hg := Lib.indexAny_ge ch l
    unfold Lib.containsAny at ih ⊢
    rw [Bool.eq_iff_iff] at ih ⊢
    simp only [decide_eq_true_eq] at ih ⊢
    simp only [List.any_cons, Bool.or_eq_true, ← ih, Lib.indexAny]
    by_cases h : ch.contains b = true
    · rw [if_pos h]; exact ⟨fun _ => .inl h, fun _ => by omega⟩
    · rw [if_neg h]
      by_cases h1 : Lib.indexAny l ch = -1
      · simp_all
      · have h2 : (Lib.indexAny l ch == -1) = false := by simpa using h1
        rw [if_neg (by simp [h2])]
        constructor
        · intro _; right; omega
        · rintro (h3 | h3)
          · exact absurd h3 h
          · omega
theorem c70 {K : List (Nat × Go.Obj)} [hK : Nonempty (KOk K)] (H : Heap) {l ch : List UInt8} (hl : l.length < 4294967281) (hc : ch.length < 4294967281) (ha : ∀ b ∈ l, b.toNat < 128) (hb : ∀ b ∈ ch, b.toNat < 128) : ACalls (cx K) 70 [aS (bs l), aS (bs ch)] H (Vb (l.any fun b => ch.contains b)) H :=
  ACalls.of_below fun ι w vs hi hv => by
    obtain rfl := args2 hv
    have := Tryd.strings_ContainsAny_laid (bs l) (bs ch) w hl hc (fun j b h => ha b (List.mem_of_getElem? h)) (fun j b h => hb b (List.mem_of_getElem? h))
    rw [show (bs l).data.toList = l from rfl, show (bs ch).data.toList = ch from rfl, any_mem] at this
    refine this.mono ?_
    rintro e w' ⟨rfl, hw⟩
    exact ⟨_, rfl, ⟨rfl, rfl⟩, hw⟩
theorem take_snoc {α : Type} {l : List α} {i : Nat} {c : α} (h : l[i]? = some c) : l.take (i + 1) = l.take i ++ [c] := by rw [List.take_add_one, h]; rfl
theorem contains_no {l : List UInt8} {i : Nat} {x c : UInt8} (h : (l.take i).contains c = false) (hx : l[i]? = some x) (hne : ¬ x = c) : (l.take (i + 1)).contains c = false := by
  rw [take_snoc hx]
  simp only [List.contains_eq_mem, decide_eq_false_iff_not, List.mem_append, List.mem_singleton, not_or] at h ⊢
  exact ⟨h, fun e => hne e.symm⟩
theorem c73 {K : List (Nat × Go.Obj)} [hK : Nonempty (KOk K)] (H : Heap) {l : List UInt8} {c : UInt8} (hl : l.length ≤ 2 ^ 47) : ACalls (cx K) 73 [aS (bs l), .c (.s (.int .u8 (c.toNat : Int)))] H (Vb (l.contains c)) H := by
  refine acalls0 Tryd.func73 rfl rfl (fun S hS hw => ?_)
  refine aw_seq ?_
  refine aw_region ?_
  refine rr_pure (rp rfl) rfl rfl rfl ?_
  refine rr_nil rfl ?_
  refine then_n ?_
  refine aw_seq ?_
  refine aw_seq ?_
  refine aw_region ?_
  refine rr_pure (rp rfl) rfl rfl rfl ?_
  refine rr_nil rfl ?_
  refine then_n ?_
  refine aw_block ?_
  refine aw_loop (σ := Nat) (fun i => [(0, sS (bs l)), (1, some (.v (.c (.s (.int .u8 (c.toNat : Int)))))), (5, sI i)]) (fun _ => _) (fun i => i ≤ l.length ∧ (l.take i).contains c = false) (fun i => l.length - i) (0) (by simp) (by repeat (first | exact Sub.nil _ | refine Sub.cons rfl ?_)) rfl ?_
  intro i hi
  refine aw_seq ?_
  refine aw_seq ?_
  refine aw_region ?_
  refine rr_pure (rp rfl) rfl rfl rfl ?_
  refine rr_pure (rp rfl) rfl rfl rfl ?_
  refine rr_pure (r_lenB rfl rfl rfl) rfl rfl rfl ?_
  refine rr_pure (rp rfl) rfl rfl rfl ?_
  refine rr_nil rfl ?_
  refine then_n ?_
  refine aw_cond rfl (fun b1 => ?_) (fun b1 => ?_)
  · have b1p := b1; try simp only [s_inj, bs_toList, bs_inj, u8_eq, UInt8.toNat_inj, decide_eq_true_eq, decide_eq_false_iff_not, Bool.not_eq_true', Bool.not_eq_false', bne_iff_ne, ne_eq, bne_eq_false_iff_eq, beq_iff_eq, beq_eq_false_iff_ne, Int.natCast_inj] at b1p
    obtain ⟨x, hx⟩ := at_lt l (i := i) (by omega)
    refine aw_skip ?_
    refine then_n ?_
    refine aw_seq ?_
    refine aw_block ?_
    refine aw_seq ?_
    refine aw_region ?_
    refine rr_pure (rp rfl) rfl rfl rfl ?_
    refine rr_pure (rp rfl) rfl rfl rfl ?_
    refine rr_pure (r_indexB (u := 0) rfl rfl rfl rfl (by assumption) (by omega)) rfl rfl rfl ?_
    refine rr_pure (rp rfl) rfl rfl rfl ?_
    refine rr_pure (rp rfl) rfl rfl rfl ?_
    refine rr_nil rfl ?_
    refine then_n ?_
    refine aw_cond rfl (fun b2 => ?_) (fun b2 => ?_)
    · have b2p := b2; try simp only [s_inj, bs_toList, bs_inj, u8_eq, UInt8.toNat_inj, decide_eq_true_eq, decide_eq_false_iff_not, Bool.not_eq_true', Bool.not_eq_false', bne_iff_ne, ne_eq, bne_eq_false_iff_eq, beq_iff_eq, beq_eq_false_iff_ne, Int.natCast_inj] at b2p
      refine aw_seq ?_
      refine aw_region ?_
      refine rr_pure (rp rfl) rfl rfl rfl ?_
      refine rr_nil rfl ?_
      refine then_n ?_
      refine aw_ret ?_
      refine inb_r ?_
      refine then_r ?_
      refine then_r ?_
      refine inb_r ?_
      refine then_r ?_
      exact fin_b rfl (by symm; rw [List.contains_iff_mem]; exact b2p ▸ List.mem_of_getElem? hx)
    · have b2p := b2; try simp only [s_inj, bs_toList, bs_inj, u8_eq, UInt8.toNat_inj, decide_eq_true_eq, decide_eq_false_iff_not, Bool.not_eq_true', Bool.not_eq_false', bne_iff_ne, ne_eq, bne_eq_false_iff_eq, beq_iff_eq, beq_eq_false_iff_ne, Int.natCast_inj] at b2p
      refine aw_skip ?_
      refine inb_n ?_
      refine then_n ?_
      refine aw_region ?_
      refine rr_pure (rp rfl) rfl rfl rfl ?_
      refine rr_pure (r_addn rfl rfl rfl ⟨by omega, by omega⟩) rfl rfl rfl ?_
      refine rr_pure (rp rfl) rfl rfl rfl ?_
      refine rr_nil rfl ?_
      refine then_n ?_
      exact ⟨i + 1, ⟨by omega, contains_no hi.2 hx b2p⟩, by omega, (by repeat (first | exact Sub.nil _ | refine Sub.cons rfl ?_)), rfl⟩
  · have b1p := b1; try simp only [s_inj, bs_toList, bs_inj, u8_eq, UInt8.toNat_inj, decide_eq_true_eq, decide_eq_false_iff_not, Bool.not_eq_true', Bool.not_eq_false', bne_iff_ne, ne_eq, bne_eq_false_iff_eq, beq_iff_eq, beq_eq_false_iff_ne, Int.natCast_inj] at b1p
    rw [List.take_of_length_le (by omega)] at hi
    refine aw_exit ?_
    refine then_x ?_
    refine then_x ?_
    refine inb_e ?_
    refine then_n ?_
    refine aw_seq ?_
    refine aw_region ?_
    refine rr_pure (rp rfl) rfl rfl rfl ?_
    refine rr_nil rfl ?_
    refine then_n ?_
    refine aw_ret ?_
    exact fin_b rfl hi.2.symm
theorem c69 {K : List (Nat × Go.Obj)} [hK : Nonempty (KOk K)] (H : Heap) {l : List UInt8} (hl : l.length ≤ 2 ^ 47) : ACalls (cx K) 69 [aS (bs l)] H (Vi .i64 (sumF l)) H := by
  refine acalls0 Tryd.func69 rfl rfl (fun S hS hw => ?_)
  refine aw_seq ?_
  refine aw_region ?_
  refine rr_pure (rp rfl) rfl rfl rfl ?_
  refine rr_nil rfl ?_
  refine then_n ?_
  refine aw_seq ?_
  refine aw_region ?_
  refine rr_pure (rp rfl) rfl rfl rfl ?_
  refine rr_nil rfl ?_
  refine then_n ?_
  refine aw_seq ?_
  refine aw_seq ?_
  refine aw_region ?_
  refine rr_pure (rp rfl) rfl rfl rfl ?_
  refine rr_nil rfl ?_
  refine then_n ?_
  refine aw_block ?_
  refine aw_loop (σ := Nat) (fun i => [(0, sS (bs l)), (3, sI (sumF (l.take i))), (4, sI i)]) (fun _ => _) (fun i => i ≤ l.length) (fun i => l.length - i) (0) (by simp) (by repeat (first | exact Sub.nil _ | refine Sub.cons rfl ?_)) rfl ?_
  intro i hi
  refine aw_seq ?_
  refine aw_seq ?_
  refine aw_region ?_
  refine rr_pure (rp rfl) rfl rfl rfl ?_
  refine rr_pure (rp rfl) rfl rfl rfl ?_
  refine rr_pure (r_lenB rfl rfl rfl) rfl rfl rfl ?_
  refine rr_pure (rp rfl) rfl rfl rfl ?_
  refine rr_nil rfl ?_
  refine then_n ?_
  refine aw_cond rfl (fun b1 => ?_) (fun b1 => ?_)
  · have b1p := b1; try simp only [s_inj, bs_toList, bs_inj, u8_eq, UInt8.toNat_inj, decide_eq_true_eq, decide_eq_false_iff_not, Bool.not_eq_true', Bool.not_eq_false', bne_iff_ne, ne_eq, bne_eq_false_iff_eq, beq_iff_eq, beq_eq_false_iff_ne, Int.natCast_inj] at b1p
    obtain ⟨x, hx⟩ := at_lt l (i := i) (by omega)
    have hb := sumF_bd (l.take i)
    have hc := x.toNat_lt
    refine aw_skip ?_
    refine then_n ?_
    refine aw_seq ?_
    refine aw_block ?_
    refine aw_region ?_
    refine rr_pure (rp rfl) rfl rfl rfl ?_
    refine rr_pure (r_muln rfl rfl rfl ⟨by omega, by omega⟩) rfl rfl rfl ?_
    refine rr_pure (rp rfl) rfl rfl rfl ?_
    refine rr_pure (rp rfl) rfl rfl rfl ?_
    refine rr_pure (r_indexB (u := 0) rfl rfl rfl rfl (by assumption) (by omega)) rfl rfl rfl ?_
    refine rr_pure (r_conv8 rfl rfl rfl rfl) rfl rfl rfl ?_
    refine rr_pure (r_addn rfl rfl rfl ⟨by omega, by omega⟩) rfl rfl rfl ?_
    refine rr_pure (r_addn rfl rfl rfl ⟨by omega, by omega⟩) rfl rfl rfl ?_
    refine rr_pure (r_rem rfl rfl rfl (by omega)) rfl rfl rfl ?_
    refine rr_pure (rp rfl) rfl rfl rfl ?_
    refine rr_nil rfl ?_
    refine inb_n ?_
    refine then_n ?_
    refine aw_region ?_
    refine rr_pure (rp rfl) rfl rfl rfl ?_
    refine rr_pure (r_addn rfl rfl rfl ⟨by omega, by omega⟩) rfl rfl rfl ?_
    refine rr_pure (rp rfl) rfl rfl rfl ?_
    refine rr_nil rfl ?_
    refine then_n ?_
    rw [← sumF_snoc, ← take_snoc hx]
    exact ⟨i + 1, by omega, by omega, (by repeat (first | exact Sub.nil _ | refine Sub.cons rfl ?_)), rfl⟩
  · have b1p := b1; try simp only [s_inj, bs_toList, bs_inj, u8_eq, UInt8.toNat_inj, decide_eq_true_eq, decide_eq_false_iff_not, Bool.not_eq_true', Bool.not_eq_false', bne_iff_ne, ne_eq, bne_eq_false_iff_eq, beq_iff_eq, beq_eq_false_iff_ne, Int.natCast_inj] at b1p
    rw [List.take_of_length_le (by omega)]
    refine aw_exit ?_
    refine then_x ?_
    refine then_x ?_
    refine inb_e ?_
    refine then_n ?_
    refine aw_seq ?_
    refine aw_region ?_
    refine rr_pure (rp rfl) rfl rfl rfl ?_
    refine rr_pure (rp rfl) rfl rfl rfl ?_
    refine rr_nil rfl ?_
    refine then_n ?_
    refine aw_ret ?_
    exact fin_i rfl rfl
theorem c82 {K : List (Nat × Go.Obj)} [hK : Nonempty (KOk K)] (H : Heap) {l : List UInt8} (hl : l.length ≤ 2 ^ 47) : ACalls (cx K) 82 [aS (bs l)] H (Vi .i64 (sumF l)) H := by
  refine acalls0 Tryd.func82 rfl rfl (fun S hS hw => ?_)
  refine aw_seq ?_
  refine aw_region ?_
  refine rr_pure (rp rfl) rfl rfl rfl ?_
  refine rr_nil rfl ?_
  refine then_n ?_
  refine aw_seq ?_
  refine aw_region ?_
  refine rr_pure (rp rfl) rfl rfl rfl ?_
  refine rr_nil rfl ?_
  refine then_n ?_
  refine aw_seq ?_
  refine aw_seq ?_
  refine aw_region ?_
  refine rr_pure (rp rfl) rfl rfl rfl ?_
  refine rr_nil rfl ?_
  refine then_n ?_
  refine aw_block ?_
  refine aw_loop (σ := Nat) (fun i => [(0, sS (bs l)), (3, sI (sumF (l.take i))), (4, sI i)]) (fun _ => _) (fun i => i ≤ l.length) (fun i => l.length - i) (0) (by simp) (by repeat (first | exact Sub.nil _ | refine Sub.cons rfl ?_)) rfl ?_
  intro i hi
  refine aw_seq ?_
  refine aw_seq ?_
  refine aw_region ?_
  refine rr_pure (rp rfl) rfl rfl rfl ?_
  refine rr_pure (rp rfl) rfl rfl rfl ?_
  refine rr_pure (r_lenB rfl rfl rfl) rfl rfl rfl ?_
  refine rr_pure (rp rfl) rfl rfl rfl ?_
  refine rr_nil rfl ?_
  refine then_n ?_
  refine aw_cond rfl (fun b1 => ?_) (fun b1 => ?_)
  · have b1p := b1; try simp only [s_inj, bs_toList, bs_inj, u8_eq, UInt8.toNat_inj, decide_eq_true_eq, decide_eq_false_iff_not, Bool.not_eq_true', Bool.not_eq_false', bne_iff_ne, ne_eq, bne_eq_false_iff_eq, beq_iff_eq, beq_eq_false_iff_ne, Int.natCast_inj] at b1p
    obtain ⟨x, hx⟩ := at_lt l (i := i) (by omega)
    have hb := sumF_bd (l.take i)
    have hc := x.toNat_lt
    refine aw_skip ?_
    refine then_n ?_
    refine aw_seq ?_
    refine aw_block ?_
    refine aw_region ?_
    refine rr_pure (rp rfl) rfl rfl rfl ?_
    refine rr_pure (r_muln rfl rfl rfl ⟨by omega, by omega⟩) rfl rfl rfl ?_
    refine rr_pure (rp rfl) rfl rfl rfl ?_
    refine rr_pure (rp rfl) rfl rfl rfl ?_
    refine rr_pure (r_indexB (u := 0) rfl rfl rfl rfl (by assumption) (by omega)) rfl rfl rfl ?_
    refine rr_pure (r_conv8 rfl rfl rfl rfl) rfl rfl rfl ?_
    refine rr_pure (r_addn rfl rfl rfl ⟨by omega, by omega⟩) rfl rfl rfl ?_
    refine rr_pure (r_addn rfl rfl rfl ⟨by omega, by omega⟩) rfl rfl rfl ?_
    refine rr_pure (r_rem rfl rfl rfl (by omega)) rfl rfl rfl ?_
    refine rr_pure (rp rfl) rfl rfl rfl ?_
    refine rr_nil rfl ?_
    refine inb_n ?_
    refine then_n ?_
    refine aw_region ?_
    refine rr_pure (rp rfl) rfl rfl rfl ?_
    refine rr_pure (r_addn rfl rfl rfl ⟨by omega, by omega⟩) rfl rfl rfl ?_
    refine rr_pure (rp rfl) rfl rfl rfl ?_
    refine rr_nil rfl ?_
    refine then_n ?_
    rw [← sumF_snoc, ← take_snoc hx]
    exact ⟨i + 1, by omega, by omega, (by repeat (first | exact Sub.nil _ | refine Sub.cons rfl ?_)), rfl⟩
  · have b1p := b1; try simp only [s_inj, bs_toList, bs_inj, u8_eq, UInt8.toNat_inj, decide_eq_true_eq, decide_eq_false_iff_not, Bool.not_eq_true', Bool.not_eq_false', bne_iff_ne, ne_eq, bne_eq_false_iff_eq, beq_iff_eq, beq_eq_false_iff_ne, Int.natCast_inj] at b1p
    rw [List.take_of_length_le (by omega)]
    refine aw_exit ?_
    refine then_x ?_
    refine then_x ?_
    refine inb_e ?_
    refine then_n ?_
    refine aw_seq ?_
    refine aw_region ?_
    refine rr_pure (rp rfl) rfl rfl rfl ?_
    refine rr_pure (rp rfl) rfl rfl rfl ?_
    refine rr_nil rfl ?_
    refine then_n ?_
    refine aw_ret ?_
    exact fin_i rfl rfl
end Go.Proofs.YtfdopoijhjbamaaDoor
