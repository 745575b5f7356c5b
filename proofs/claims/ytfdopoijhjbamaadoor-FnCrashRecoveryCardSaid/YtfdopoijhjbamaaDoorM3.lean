/- Records, sums and numbers as texts. -/
import Derived.Test.YtfdopoijhjbamaaDoorM2
namespace Go.Proofs.YtfdopoijhjbamaaDoor
open Go.Aw Go.RowKit
set_option maxRecDepth 100000
set_option linter.unusedSimpArgs false
set_option linter.unusedVariables false
theorem nil_toList : (⟨#[]⟩ : ByteArray).toList = [] := bs_toList []
theorem okB_within (x : UInt8) : within (x.toNat : Int) 32 126 = okB x := by
  unfold within okB
  rw [Bool.eq_iff_iff]; simp only [Bool.and_eq_true, decide_eq_true_eq]; omega
theorem okB_lo {x : UInt8} (h : (x.toNat : Int) < 32) : okB x = false := by rw [okB, decide_eq_false (by omega)]; rfl
theorem okB_hi {x : UInt8} (h : (x.toNat : Int) > 126) : okB x = false := by rw [okB, decide_eq_false (by omega : ¬ x.toNat ≤ 126)]; simp
theorem okB_t {x : UInt8} (h : ¬ (x.toNat : Int) < 32) (h' : ¬ (x.toNat : Int) > 126) : okB x = true := by rw [okB, decide_eq_true (by omega), decide_eq_true (by omega)]; rfl
theorem ascii_of {l : List UInt8} (h : l.all okB = true) : ∀ b ∈ l, b.toNat < 128 := fun b hb => by
  have := List.all_eq_true.1 h b hb
  simp only [okB, Bool.and_eq_true, decide_eq_true_eq] at this; omega
theorem c23 {K : List (Nat × Go.Obj)} [hK : Nonempty (KOk K)] (H : Heap) {a b c : Int} : ACalls (cx K) 23 [aI a, aI b, aI c] H (Vb (within a b c)) H := by
  refine acalls0 Tryd.func23 rfl rfl (fun S hS hw => ?_)
  refine aw_seq ?_
  refine aw_region ?_
  refine rr_pure (rp rfl) rfl rfl rfl ?_
  refine rr_nil rfl ?_
  refine then_n ?_
  refine aw_seq ?_
  refine aw_region ?_
  refine rr_pure (rp rfl) rfl rfl rfl ?_
  refine rr_pure (rp rfl) rfl rfl rfl ?_
  refine rr_pure (rp rfl) rfl rfl rfl ?_
  refine rr_pure (rp rfl) rfl rfl rfl ?_
  refine rr_split rfl (fun g1 => ?_) (fun g1 => ?_)
  · have g1p := g1; try simp only [s_inj, bs_toList, nil_toList, bs_inj, u8_eq, UInt8.toNat_inj, decide_eq_true_eq, decide_eq_false_iff_not, Bool.not_eq_true', Bool.not_eq_false', bne_iff_ne, ne_eq, bne_eq_false_iff_eq, beq_iff_eq, beq_eq_false_iff_ne, Int.natCast_inj] at g1p
    refine rr_pure (rp rfl) rfl rfl g1 ?_
    refine rr_pure (rp rfl) rfl rfl g1 ?_
    refine rr_pure (rp rfl) rfl rfl g1 ?_
    refine rr_pure (r_pick_t rfl rfl g1 rfl) rfl rfl rfl ?_
    refine rr_pure (rp rfl) rfl rfl rfl ?_
    refine rr_nil rfl ?_
    refine then_n ?_
    refine aw_ret ?_
    exact fin_b rfl (by first | (simp_all [within]; done) | (simp_all [within]; omega))
  · have g1p := g1; try simp only [s_inj, bs_toList, nil_toList, bs_inj, u8_eq, UInt8.toNat_inj, decide_eq_true_eq, decide_eq_false_iff_not, Bool.not_eq_true', Bool.not_eq_false', bne_iff_ne, ne_eq, bne_eq_false_iff_eq, beq_iff_eq, beq_eq_false_iff_ne, Int.natCast_inj] at g1p
    refine rr_skip rfl rfl g1 ?_
    refine rr_skip rfl rfl g1 ?_
    refine rr_skip rfl rfl g1 ?_
    refine rr_pure (r_pick_f rfl rfl g1 rfl) rfl rfl rfl ?_
    refine rr_pure (rp rfl) rfl rfl rfl ?_
    refine rr_nil rfl ?_
    refine then_n ?_
    refine aw_ret ?_
    exact fin_b rfl (by first | (simp_all [within]; done) | (simp_all [within]; omega))
theorem c22 {K : List (Nat × Go.Obj)} [hK : Nonempty (KOk K)] (H : Heap) {a b c : Int} : ACalls (cx K) 22 [aI a, aI b, aI c] H (Vb (within a b c)) H := by
  refine acalls0 Tryd.func22 rfl rfl (fun S hS hw => ?_)
  refine aw_seq ?_
  refine aw_region ?_
  refine rr_pure (rp rfl) rfl rfl rfl ?_
  refine rr_nil rfl ?_
  refine then_n ?_
  refine aw_seq ?_
  refine aw_region ?_
  refine rr_pure (rp rfl) rfl rfl rfl ?_
  refine rr_pure (rp rfl) rfl rfl rfl ?_
  refine rr_pure (rp rfl) rfl rfl rfl ?_
  refine rr_pure (rp rfl) rfl rfl rfl ?_
  refine rr_split rfl (fun g1 => ?_) (fun g1 => ?_)
  · have g1p := g1; try simp only [s_inj, bs_toList, nil_toList, bs_inj, u8_eq, UInt8.toNat_inj, decide_eq_true_eq, decide_eq_false_iff_not, Bool.not_eq_true', Bool.not_eq_false', bne_iff_ne, ne_eq, bne_eq_false_iff_eq, beq_iff_eq, beq_eq_false_iff_ne, Int.natCast_inj] at g1p
    refine rr_pure (rp rfl) rfl rfl g1 ?_
    refine rr_pure (rp rfl) rfl rfl g1 ?_
    refine rr_pure (rp rfl) rfl rfl g1 ?_
    refine rr_pure (r_pick_t rfl rfl g1 rfl) rfl rfl rfl ?_
    refine rr_pure (rp rfl) rfl rfl rfl ?_
    refine rr_nil rfl ?_
    refine then_n ?_
    refine aw_ret ?_
    exact fin_b rfl (by first | (simp_all [within]; done) | (simp_all [within]; omega))
  · have g1p := g1; try simp only [s_inj, bs_toList, nil_toList, bs_inj, u8_eq, UInt8.toNat_inj, decide_eq_true_eq, decide_eq_false_iff_not, Bool.not_eq_true', Bool.not_eq_false', bne_iff_ne, ne_eq, bne_eq_false_iff_eq, beq_iff_eq, beq_eq_false_iff_ne, Int.natCast_inj] at g1p
    refine rr_skip rfl rfl g1 ?_
    refine rr_skip rfl rfl g1 ?_
    refine rr_skip rfl rfl g1 ?_
    refine rr_pure (r_pick_f rfl rfl g1 rfl) rfl rfl rfl ?_
    refine rr_pure (rp rfl) rfl rfl rfl ?_
    refine rr_nil rfl ?_
    refine then_n ?_
    refine aw_ret ?_
    exact fin_b rfl (by first | (simp_all [within]; done) | (simp_all [within]; omega))
theorem c57 {K : List (Nat × Go.Obj)} [hK : Nonempty (KOk K)] (H : Heap) {l ch : List UInt8} (hl : l.length ≤ 2 ^ 31) (hc : ch.length ≤ 9) (hb : ∀ b ∈ ch, b.toNat < 128) : ACalls (cx K) 57 [aS (bs l), aS (bs ch)] H (Vb (l.all okB && !(l.any fun b => ch.contains b))) H := by
  refine acalls0 Tryd.func57 rfl rfl (fun S hS hw => ?_)
  refine aw_seq ?_
  refine aw_region ?_
  refine rr_pure (rp rfl) rfl rfl rfl ?_
  refine rr_nil rfl ?_
  refine then_n ?_
  refine aw_seq ?_
  refine aw_seq ?_
  refine aw_region ?_
  refine rr_pure (rp rfl) rfl rfl rfl ?_
  refine rr_nil rfl ?_
  refine then_n ?_
  refine aw_block ?_
  refine aw_loop (σ := Nat) (fun i => [(0, sS (bs l)), (1, sS (bs ch)), (5, sI i)]) (fun _ => _) (fun i => i ≤ l.length ∧ (l.take i).all okB = true) (fun i => l.length - i) (0) (by simp) (by repeat (first | exact Sub.nil _ | refine Sub.cons rfl ?_)) rfl ?_
  intro i hi
  refine aw_seq ?_
  refine aw_seq ?_
  refine aw_region ?_
  refine rr_pure (rp rfl) rfl rfl rfl ?_
  refine rr_pure (rp rfl) rfl rfl rfl ?_
  refine rr_pure (r_lenB rfl rfl rfl) rfl rfl rfl ?_
  refine rr_pure (rp rfl) rfl rfl rfl ?_
  refine rr_nil rfl ?_
  refine then_n ?_
  refine aw_cond rfl (fun b1 => ?_) (fun b1 => ?_)
  · have b1p := b1; try simp only [s_inj, bs_toList, nil_toList, bs_inj, u8_eq, UInt8.toNat_inj, decide_eq_true_eq, decide_eq_false_iff_not, Bool.not_eq_true', Bool.not_eq_false', bne_iff_ne, ne_eq, bne_eq_false_iff_eq, beq_iff_eq, beq_eq_false_iff_ne, Int.natCast_inj] at b1p
    obtain ⟨x, hx⟩ := at_lt l (i := i) (by omega)
    refine aw_skip ?_
    refine then_n ?_
    refine aw_seq ?_
    refine aw_block ?_
    refine aw_seq ?_
    refine aw_region ?_
    refine rr_pure (rp rfl) rfl rfl rfl ?_
    refine rr_pure (rp rfl) rfl rfl rfl ?_
    refine rr_pure (r_indexB (u := 0) rfl rfl rfl rfl (by assumption) (by omega)) rfl rfl rfl ?_
    refine rr_pure (rp rfl) rfl rfl rfl ?_
    refine rr_pure (rp rfl) rfl rfl rfl ?_
    refine rr_split rfl (fun g2 => ?_) (fun g2 => ?_)
    · have g2p := g2; try simp only [s_inj, bs_toList, nil_toList, bs_inj, u8_eq, UInt8.toNat_inj, decide_eq_true_eq, decide_eq_false_iff_not, Bool.not_eq_true', Bool.not_eq_false', bne_iff_ne, ne_eq, bne_eq_false_iff_eq, beq_iff_eq, beq_eq_false_iff_ne, Int.natCast_inj] at g2p
      refine rr_skip rfl rfl g2 ?_
      refine rr_skip rfl rfl g2 ?_
      refine rr_skip rfl rfl g2 ?_
      refine rr_skip rfl rfl g2 ?_
      refine rr_pure (r_pick_t rfl rfl g2 rfl) rfl rfl rfl ?_
      refine rr_nil rfl ?_
      refine then_n ?_
      refine aw_cond rfl (fun _ => ?_) (fun b3 => by first | cases b3 | (rw [b3] at b3; cases b3) | simp_all)
      refine aw_seq ?_
      refine aw_region ?_
      refine rr_pure (rp rfl) rfl rfl rfl ?_
      refine rr_nil rfl ?_
      refine then_n ?_
      refine aw_ret ?_
      refine inb_r ?_
      refine then_r ?_
      refine then_r ?_
      refine inb_r ?_
      refine then_r ?_
      exact fin_b rfl (by rw [all_not hx (okB_lo (by omega))]; rfl)
    · have g2p := g2; try simp only [s_inj, bs_toList, nil_toList, bs_inj, u8_eq, UInt8.toNat_inj, decide_eq_true_eq, decide_eq_false_iff_not, Bool.not_eq_true', Bool.not_eq_false', bne_iff_ne, ne_eq, bne_eq_false_iff_eq, beq_iff_eq, beq_eq_false_iff_ne, Int.natCast_inj] at g2p
      refine rr_pure (rp rfl) rfl rfl g2 ?_
      refine rr_pure (rp rfl) rfl rfl g2 ?_
      refine rr_pure (r_indexB (u := 0) rfl rfl rfl rfl (by assumption) (by omega)) rfl rfl g2 ?_
      refine rr_pure (rp rfl) rfl rfl g2 ?_
      refine rr_pure (r_pick_f rfl rfl g2 rfl) rfl rfl rfl ?_
      refine rr_nil rfl ?_
      refine then_n ?_
      refine aw_cond rfl (fun b4 => ?_) (fun b4 => ?_)
      · have b4p := b4; try simp only [s_inj, bs_toList, nil_toList, bs_inj, u8_eq, UInt8.toNat_inj, decide_eq_true_eq, decide_eq_false_iff_not, Bool.not_eq_true', Bool.not_eq_false', bne_iff_ne, ne_eq, bne_eq_false_iff_eq, beq_iff_eq, beq_eq_false_iff_ne, Int.natCast_inj] at b4p
        refine aw_seq ?_
        refine aw_region ?_
        refine rr_pure (rp rfl) rfl rfl rfl ?_
        refine rr_nil rfl ?_
        refine then_n ?_
        refine aw_ret ?_
        refine inb_r ?_
        refine then_r ?_
        refine then_r ?_
        refine inb_r ?_
        refine then_r ?_
        exact fin_b rfl (by rw [all_not hx (okB_hi (by omega))]; rfl)
      · have b4p := b4; try simp only [s_inj, bs_toList, nil_toList, bs_inj, u8_eq, UInt8.toNat_inj, decide_eq_true_eq, decide_eq_false_iff_not, Bool.not_eq_true', Bool.not_eq_false', bne_iff_ne, ne_eq, bne_eq_false_iff_eq, beq_iff_eq, beq_eq_false_iff_ne, Int.natCast_inj] at b4p
        refine aw_skip ?_
        refine inb_n ?_
        refine then_n ?_
        refine aw_region ?_
        refine rr_pure (rp rfl) rfl rfl rfl ?_
        refine rr_pure (r_addn rfl rfl rfl ⟨by omega, by omega⟩) rfl rfl rfl ?_
        refine rr_pure (rp rfl) rfl rfl rfl ?_
        refine rr_nil rfl ?_
        refine then_n ?_
        exact ⟨i + 1, ⟨by omega, all_take hi.2 hx (okB_t (by omega) (by omega))⟩, by omega, (by repeat (first | exact Sub.nil _ | refine Sub.cons rfl ?_)), rfl⟩
  · have b1p := b1; try simp only [s_inj, bs_toList, nil_toList, bs_inj, u8_eq, UInt8.toNat_inj, decide_eq_true_eq, decide_eq_false_iff_not, Bool.not_eq_true', Bool.not_eq_false', bne_iff_ne, ne_eq, bne_eq_false_iff_eq, beq_iff_eq, beq_eq_false_iff_ne, Int.natCast_inj] at b1p
    rw [List.take_of_length_le (by omega)] at hi
    refine aw_exit ?_
    refine then_x ?_
    refine then_x ?_
    refine inb_e ?_
    refine then_n ?_
    refine aw_seq ?_
    refine aw_region ?_
    refine rr_pure (rp rfl) rfl rfl rfl ?_
    refine rr_pure (rp rfl) rfl rfl rfl ?_
    refine rr_read (r_callF rfl rfl rfl (c70 _ (by omega) (by omega) (ascii_of hi.2) hb)) rfl rfl rfl  ?_
    refine rr_pure (rp rfl) rfl rfl rfl ?_
    refine rr_pure (rp rfl) rfl rfl rfl ?_
    refine rr_nil rfl ?_
    refine then_n ?_
    refine aw_ret ?_
    exact fin_b rfl (by rw [hi.2]; rfl)
theorem any2 (l : List UInt8) : (l.any fun b => [35, 64].contains b) = (l.contains 35 || l.contains 64) := by
  rw [Bool.eq_iff_iff]
  simp only [List.any_eq_true, List.contains_eq_mem, Bool.or_eq_true, decide_eq_true_eq, List.mem_cons, List.not_mem_nil, or_false]
  constructor
  · rintro ⟨b, hb, rfl | rfl⟩
    · exact .inl hb
    · exact .inr hb
  · rintro (h | h)
    · exact ⟨_, h, .inl rfl⟩
    · exact ⟨_, h, .inr rfl⟩
theorem any1 (l : List UInt8) : (l.any fun b => [35].contains b) = l.contains 35 := by
  rw [Bool.eq_iff_iff]
  simp only [List.any_eq_true, List.contains_eq_mem, decide_eq_true_eq, List.mem_singleton]
  constructor
  · rintro ⟨b, hb, rfl⟩; exact hb
  · intro h; exact ⟨_, h, rfl⟩
theorem okQ_cmd (l : List UInt8) : okQ l = (within (l.length : Int) 1 160 && (l.all okB && !(l.any fun b => [35, 64].contains b))) := by
  rw [any2]
  unfold okQ within
  rw [Bool.eq_iff_iff]
  simp only [Bool.and_eq_true, decide_eq_true_eq, Bool.not_eq_true', Bool.or_eq_false_iff]
  constructor
  · rintro ⟨⟨⟨⟨h1, h2⟩, h3⟩, h4⟩, h5⟩; exact ⟨⟨by omega, by omega⟩, h3, h4, h5⟩
  · rintro ⟨⟨h1, h2⟩, h3, h4, h5⟩; exact ⟨⟨⟨⟨by omega, by omega⟩, h3⟩, h4⟩, h5⟩
theorem okA_rep (l : List UInt8) : okA l = (decide ((l.length : Int) ≤ 200) && (l.all okB && !(l.any fun b => [35].contains b))) := by
  rw [any1]
  unfold okA
  rw [Bool.eq_iff_iff]
  simp only [Bool.and_eq_true, decide_eq_true_eq]
  constructor
  · rintro ⟨⟨h1, h2⟩, h3⟩; exact ⟨by omega, h2, h3⟩
  · rintro ⟨h1, h2, h3⟩; exact ⟨⟨by omega, h2⟩, h3⟩
theorem c56 {K : List (Nat × Go.Obj)} [hK : Nonempty (KOk K)] (H : Heap) {l : List UInt8} (hl : l.length ≤ 2 ^ 40) : ACalls (cx K) 56 [aS (bs l)] H (Vb (okQ l)) H := by
  refine acalls0 Tryd.func56 rfl rfl (fun S hS hw => ?_)
  refine aw_seq ?_
  refine aw_region ?_
  refine rr_pure (rp rfl) rfl rfl rfl ?_
  refine rr_nil rfl ?_
  refine then_n ?_
  refine aw_seq ?_
  refine aw_region ?_
  refine rr_pure (rp rfl) rfl rfl rfl ?_
  refine rr_pure (r_lenB rfl rfl rfl) rfl rfl rfl ?_
  refine rr_read (r_callF rfl rfl rfl (c23 _)) rfl rfl rfl  ?_
  refine rr_pure (rp rfl) rfl rfl rfl ?_
  refine rr_split rfl (fun g1 => ?_) (fun g1 => ?_)
  · have g1p := g1; try simp only [s_inj, bs_toList, nil_toList, bs_inj, u8_eq, UInt8.toNat_inj, decide_eq_true_eq, decide_eq_false_iff_not, Bool.not_eq_true', Bool.not_eq_false', bne_iff_ne, ne_eq, bne_eq_false_iff_eq, beq_iff_eq, beq_eq_false_iff_ne, Int.natCast_inj] at g1p
    refine rr_pure (rp rfl) rfl rfl g1 ?_
    refine rr_read (r_callF rfl rfl rfl (c57 _ (l := l) (ch := [35, 64]) (by simp only [within, Bool.and_eq_true, decide_eq_true_eq] at g1p; omega) (by decide) (by decide))) rfl rfl g1  ?_
    refine rr_pure (r_pick_t rfl rfl g1 rfl) rfl rfl rfl ?_
    refine rr_pure (rp rfl) rfl rfl rfl ?_
    refine rr_nil rfl ?_
    refine then_n ?_
    refine aw_ret ?_
    exact fin_b rfl (by rw [okQ_cmd, g1p]; rfl)
  · have g1p := g1; try simp only [s_inj, bs_toList, nil_toList, bs_inj, u8_eq, UInt8.toNat_inj, decide_eq_true_eq, decide_eq_false_iff_not, Bool.not_eq_true', Bool.not_eq_false', bne_iff_ne, ne_eq, bne_eq_false_iff_eq, beq_iff_eq, beq_eq_false_iff_ne, Int.natCast_inj] at g1p
    refine rr_skip rfl rfl g1 ?_
    refine rr_skip rfl rfl g1 ?_
    refine rr_pure (r_pick_f rfl rfl g1 rfl) rfl rfl rfl ?_
    refine rr_pure (rp rfl) rfl rfl rfl ?_
    refine rr_nil rfl ?_
    refine then_n ?_
    refine aw_ret ?_
    exact fin_b rfl (by rw [okQ_cmd, g1p]; rfl)
def eR (e : Rc) : List AC := [.s (.string (bs e.q)), .s (.string (bs e.a))]
abbrev aR (e : Rc) : AV := .ag (eR e)
theorem lR : ∀ x, (eR x).length = 2 := fun _ => rfl
theorem pR : ∀ x, ∀ c ∈ eR x, c.ids = [] := fun x c hc => by simp only [eR, List.mem_cons, List.not_mem_nil, or_false] at hc; rcases hc with rfl | rfl <;> rfl
abbrev bR (xs : List Rc) : Option Blk := some ⟨xs.flatMap eR, true, 2⟩
theorem c40 {K : List (Nat × Go.Obj)} [hK : Nonempty (KOk K)] (H : Heap) {e : Rc} (hq : e.q.length ≤ 2 ^ 40) (ha : e.a.length ≤ 2 ^ 40) : ACalls (cx K) 40 [aR e] H (Vb (okRc e)) H := by
  refine acalls0 Tryd.func40 rfl rfl (fun S hS hw => ?_)
  refine aw_seq ?_
  refine aw_region ?_
  refine rr_memL (r_boxL rfl rfl) rfl rfl rfl ?_
  refine rr_pure (rp rfl) rfl rfl rfl ?_
  refine rr_nil rfl ?_
  refine then_n ?_
  refine aw_seq ?_
  refine aw_region ?_
  refine rr_pure (rp rfl) rfl rfl rfl ?_
  first
    | refine rr_read (r_loadL rfl rfl rfl rfl rfl) rfl rfl rfl ?_
    | refine rr_read (r_loadA rfl rfl rfl (Rd.at (by assumption) (by assumption)) rfl) rfl rfl rfl ?_
  refine rr_read (r_callF rfl rfl rfl (c56 _ hq)) rfl rfl rfl  ?_
  refine rr_pure (rp rfl) rfl rfl rfl ?_
  refine rr_split rfl (fun g1 => ?_) (fun g1 => ?_)
  · have g1p := g1; try simp only [s_inj, bs_toList, nil_toList, bs_inj, u8_eq, UInt8.toNat_inj, decide_eq_true_eq, decide_eq_false_iff_not, Bool.not_eq_true', Bool.not_eq_false', bne_iff_ne, ne_eq, bne_eq_false_iff_eq, beq_iff_eq, beq_eq_false_iff_ne, Int.natCast_inj] at g1p
    refine rr_pure (rp rfl) rfl rfl g1 ?_
    first
      | refine rr_read (r_loadL rfl rfl rfl rfl rfl) rfl rfl g1 ?_
      | refine rr_read (r_loadA rfl rfl rfl (Rd.at (by assumption) (by assumption)) rfl) rfl rfl g1 ?_
    refine rr_pure (r_lenB rfl rfl rfl) rfl rfl g1 ?_
    refine rr_pure (rp rfl) rfl rfl g1 ?_
    refine rr_pure (r_pick_t rfl rfl g1 rfl) rfl rfl rfl ?_
    refine rr_pure (rp rfl) rfl rfl rfl ?_
    refine rr_split rfl (fun g2 => ?_) (fun g2 => ?_)
    · have g2p := g2; try simp only [s_inj, bs_toList, nil_toList, bs_inj, u8_eq, UInt8.toNat_inj, decide_eq_true_eq, decide_eq_false_iff_not, Bool.not_eq_true', Bool.not_eq_false', bne_iff_ne, ne_eq, bne_eq_false_iff_eq, beq_iff_eq, beq_eq_false_iff_ne, Int.natCast_inj] at g2p
      refine rr_pure (rp rfl) rfl rfl g2 ?_
      first
        | refine rr_read (r_loadL rfl rfl rfl rfl rfl) rfl rfl g2 ?_
        | refine rr_read (r_loadA rfl rfl rfl (Rd.at (by assumption) (by assumption)) rfl) rfl rfl g2 ?_
      refine rr_read (r_callF rfl rfl rfl (c57 _ (l := e.a) (ch := [35]) (by omega) (by decide) (by decide))) rfl rfl g2  ?_
      refine rr_pure (r_pick_t rfl rfl g2 rfl) rfl rfl rfl ?_
      refine rr_pure (rp rfl) rfl rfl rfl ?_
      refine rr_nil rfl ?_
      refine then_n ?_
      refine aw_ret ?_
      exact fin_b rfl (by simp only [okRc, okA_rep]; first | (simp_all; done) | (simp_all; intros; omega))
    · have g2p := g2; try simp only [s_inj, bs_toList, nil_toList, bs_inj, u8_eq, UInt8.toNat_inj, decide_eq_true_eq, decide_eq_false_iff_not, Bool.not_eq_true', Bool.not_eq_false', bne_iff_ne, ne_eq, bne_eq_false_iff_eq, beq_iff_eq, beq_eq_false_iff_ne, Int.natCast_inj] at g2p
      refine rr_skip rfl rfl g2 ?_
      refine rr_skip rfl rfl g2 ?_
      refine rr_skip rfl rfl g2 ?_
      refine rr_pure (r_pick_f rfl rfl g2 rfl) rfl rfl rfl ?_
      refine rr_pure (rp rfl) rfl rfl rfl ?_
      refine rr_nil rfl ?_
      refine then_n ?_
      refine aw_ret ?_
      exact fin_b rfl (by simp only [okRc, okA_rep]; first | (simp_all; done) | (simp_all; intros; omega))
  · have g1p := g1; try simp only [s_inj, bs_toList, nil_toList, bs_inj, u8_eq, UInt8.toNat_inj, decide_eq_true_eq, decide_eq_false_iff_not, Bool.not_eq_true', Bool.not_eq_false', bne_iff_ne, ne_eq, bne_eq_false_iff_eq, beq_iff_eq, beq_eq_false_iff_ne, Int.natCast_inj] at g1p
    refine rr_skip rfl rfl g1 ?_
    refine rr_skip rfl rfl g1 ?_
    refine rr_skip rfl rfl g1 ?_
    refine rr_skip rfl rfl g1 ?_
    refine rr_pure (r_pick_f rfl rfl g1 rfl) rfl rfl rfl ?_
    refine rr_pure (rp rfl) rfl rfl rfl ?_
    refine rr_skip rfl rfl rfl ?_
    refine rr_skip rfl rfl rfl ?_
    refine rr_skip rfl rfl rfl ?_
    refine rr_pure (r_pick_f rfl rfl rfl rfl) rfl rfl rfl ?_
    refine rr_pure (rp rfl) rfl rfl rfl ?_
    refine rr_nil rfl ?_
    refine then_n ?_
    refine aw_ret ?_
    exact fin_b rfl (by simp only [okRc, okA_rep]; first | (simp_all; done) | (simp_all; intros; omega))
theorem c72 {K : List (Nat × Go.Obj)} [hK : Nonempty (KOk K)] (H : Heap) {l : List UInt8} {n : Int} (hl : l.length ≤ 2 ^ 47) : ACalls (cx K) 72 [aS (bs l), aI n] H (Vb (l.all okB && !l.contains 35 && decide ((l.length : Int) ≤ n))) H := by
  refine acalls0 Tryd.func72 rfl rfl (fun S hS hw => ?_)
  refine aw_seq ?_
  refine aw_region ?_
  refine rr_pure (rp rfl) rfl rfl rfl ?_
  refine rr_nil rfl ?_
  refine then_n ?_
  refine aw_seq ?_
  refine aw_seq ?_
  refine aw_region ?_
  refine rr_pure (rp rfl) rfl rfl rfl ?_
  refine rr_nil rfl ?_
  refine then_n ?_
  refine aw_block ?_
  refine aw_loop (σ := Nat) (fun i => [(0, sS (bs l)), (1, sI n), (5, sI i)]) (fun _ => _) (fun i => i ≤ l.length ∧ (l.take i).all okB = true ∧ (l.take i).contains 35 = false) (fun i => l.length - i) (0) (by simp) (by repeat (first | exact Sub.nil _ | refine Sub.cons rfl ?_)) rfl ?_
  intro i hi
  refine aw_seq ?_
  refine aw_seq ?_
  refine aw_region ?_
  refine rr_pure (rp rfl) rfl rfl rfl ?_
  refine rr_pure (rp rfl) rfl rfl rfl ?_
  refine rr_pure (r_lenB rfl rfl rfl) rfl rfl rfl ?_
  refine rr_pure (rp rfl) rfl rfl rfl ?_
  refine rr_nil rfl ?_
  refine then_n ?_
  refine aw_cond rfl (fun b1 => ?_) (fun b1 => ?_)
  · have b1p := b1; try simp only [s_inj, bs_toList, nil_toList, bs_inj, u8_eq, UInt8.toNat_inj, decide_eq_true_eq, decide_eq_false_iff_not, Bool.not_eq_true', Bool.not_eq_false', bne_iff_ne, ne_eq, bne_eq_false_iff_eq, beq_iff_eq, beq_eq_false_iff_ne, Int.natCast_inj] at b1p
    obtain ⟨x, hx⟩ := at_lt l (i := i) (by omega)
    refine aw_skip ?_
    refine then_n ?_
    refine aw_seq ?_
    refine aw_block ?_
    refine aw_seq ?_
    refine aw_region ?_
    refine rr_pure (rp rfl) rfl rfl rfl ?_
    refine rr_pure (rp rfl) rfl rfl rfl ?_
    refine rr_pure (r_indexB (u := 0) rfl rfl rfl rfl (by assumption) (by omega)) rfl rfl rfl ?_
    refine rr_pure (r_conv8 rfl rfl rfl rfl) rfl rfl rfl ?_
    refine rr_read (r_callF rfl rfl rfl (c22 _)) rfl rfl rfl  ?_
    refine rr_pure (rp rfl) rfl rfl rfl ?_
    refine rr_pure (rp rfl) rfl rfl rfl ?_
    refine rr_split rfl (fun g2 => ?_) (fun g2 => ?_)
    · have g2p := g2; try simp only [s_inj, bs_toList, nil_toList, bs_inj, u8_eq, UInt8.toNat_inj, decide_eq_true_eq, decide_eq_false_iff_not, Bool.not_eq_true', Bool.not_eq_false', bne_iff_ne, ne_eq, bne_eq_false_iff_eq, beq_iff_eq, beq_eq_false_iff_ne, Int.natCast_inj] at g2p
      refine rr_skip rfl rfl g2 ?_
      refine rr_skip rfl rfl g2 ?_
      refine rr_skip rfl rfl g2 ?_
      refine rr_skip rfl rfl g2 ?_
      refine rr_pure (r_pick_t rfl rfl g2 rfl) rfl rfl rfl ?_
      refine rr_nil rfl ?_
      refine then_n ?_
      refine aw_cond rfl (fun _ => ?_) (fun b3 => by first | cases b3 | (rw [b3] at b3; cases b3) | simp_all)
      refine aw_seq ?_
      refine aw_region ?_
      refine rr_pure (rp rfl) rfl rfl rfl ?_
      refine rr_nil rfl ?_
      refine then_n ?_
      refine aw_ret ?_
      refine inb_r ?_
      refine then_r ?_
      refine then_r ?_
      refine inb_r ?_
      refine then_r ?_
      exact fin_b rfl (by rw [all_not hx (p := okB) (by rw [← okB_within]; exact g2p)]; rfl)
    · have g2p := g2; try simp only [s_inj, bs_toList, nil_toList, bs_inj, u8_eq, UInt8.toNat_inj, decide_eq_true_eq, decide_eq_false_iff_not, Bool.not_eq_true', Bool.not_eq_false', bne_iff_ne, ne_eq, bne_eq_false_iff_eq, beq_iff_eq, beq_eq_false_iff_ne, Int.natCast_inj] at g2p
      refine rr_pure (rp rfl) rfl rfl g2 ?_
      refine rr_pure (rp rfl) rfl rfl g2 ?_
      refine rr_pure (r_indexB (u := 0) rfl rfl rfl rfl (by assumption) (by omega)) rfl rfl g2 ?_
      refine rr_pure (rp rfl) rfl rfl g2 ?_
      refine rr_pure (r_pick_f rfl rfl g2 rfl) rfl rfl rfl ?_
      refine rr_nil rfl ?_
      refine then_n ?_
      refine aw_cond rfl (fun b4 => ?_) (fun b4 => ?_)
      · have b4p := b4; try simp only [s_inj, bs_toList, nil_toList, bs_inj, u8_eq, UInt8.toNat_inj, decide_eq_true_eq, decide_eq_false_iff_not, Bool.not_eq_true', Bool.not_eq_false', bne_iff_ne, ne_eq, bne_eq_false_iff_eq, beq_iff_eq, beq_eq_false_iff_ne, Int.natCast_inj] at b4p
        refine aw_seq ?_
        refine aw_region ?_
        refine rr_pure (rp rfl) rfl rfl rfl ?_
        refine rr_nil rfl ?_
        refine then_n ?_
        refine aw_ret ?_
        refine inb_r ?_
        refine then_r ?_
        refine then_r ?_
        refine inb_r ?_
        refine then_r ?_
        have e : x = 35 := UInt8.toNat_inj.1 (by have h : (x.toNat : Int) = 35 := b4p; show x.toNat = 35; omega)
        exact fin_b rfl (by rw [show l.contains 35 = true from List.contains_iff_mem.2 (e ▸ List.mem_of_getElem? hx)]; simp)
      · have b4p := b4; try simp only [s_inj, bs_toList, nil_toList, bs_inj, u8_eq, UInt8.toNat_inj, decide_eq_true_eq, decide_eq_false_iff_not, Bool.not_eq_true', Bool.not_eq_false', bne_iff_ne, ne_eq, bne_eq_false_iff_eq, beq_iff_eq, beq_eq_false_iff_ne, Int.natCast_inj] at b4p
        refine aw_skip ?_
        refine inb_n ?_
        refine then_n ?_
        refine aw_region ?_
        refine rr_pure (rp rfl) rfl rfl rfl ?_
        refine rr_pure (r_addn rfl rfl rfl ⟨by omega, by omega⟩) rfl rfl rfl ?_
        refine rr_pure (rp rfl) rfl rfl rfl ?_
        refine rr_nil rfl ?_
        refine then_n ?_
        exact ⟨i + 1, ⟨by omega, all_take hi.2.1 hx (by rw [← okB_within]; exact g2p), contains_no hi.2.2 hx (fun e => by rw [e] at b4p; exact b4p rfl)⟩, by omega, (by repeat (first | exact Sub.nil _ | refine Sub.cons rfl ?_)), rfl⟩
  · have b1p := b1; try simp only [s_inj, bs_toList, nil_toList, bs_inj, u8_eq, UInt8.toNat_inj, decide_eq_true_eq, decide_eq_false_iff_not, Bool.not_eq_true', Bool.not_eq_false', bne_iff_ne, ne_eq, bne_eq_false_iff_eq, beq_iff_eq, beq_eq_false_iff_ne, Int.natCast_inj] at b1p
    rw [List.take_of_length_le (by omega)] at hi
    refine aw_exit ?_
    refine then_x ?_
    refine then_x ?_
    refine inb_e ?_
    refine then_n ?_
    refine aw_seq ?_
    refine aw_region ?_
    refine rr_pure (rp rfl) rfl rfl rfl ?_
    refine rr_pure (r_lenB rfl rfl rfl) rfl rfl rfl ?_
    refine rr_pure (rp rfl) rfl rfl rfl ?_
    refine rr_pure (rp rfl) rfl rfl rfl ?_
    refine rr_pure (rp rfl) rfl rfl rfl ?_
    refine rr_nil rfl ?_
    refine then_n ?_
    refine aw_ret ?_
    exact fin_b rfl (by rw [hi.2.1, hi.2.2]; rfl)
end Go.Proofs.YtfdopoijhjbamaaDoor
