/- The law of recovery. -/
import Derived.Test.YtfdopoijhjbamaaDoorO8
import Derived.WalkKit
import Derived.Laws.StructEq
namespace Go.Proofs.YtfdopoijhjbamaaDoor
open Go.Aw Go.RowKit
set_option maxRecDepth 100000
set_option maxHeartbeats 4000000
set_option linter.unusedSimpArgs false
set_option linter.unusedVariables false
theorem eqRc (a b c d : ByteArray) (w : World) : (Op.equalIn 10000 39 (.agg #[.string a, .string b]) (.agg #[.string c, .string d])).run Tryd.prog w = .ok (a.toList == c.toList && b.toList == d.toList) w := by
  have u9 := Tryd.underlying9
  have a9 := Tryd.isAgg9
  have z9 := Tryd.sizeOf9
  have hS : Tryd.prog.underlying 39 = some (.struct (Tryd.prog.fieldsOf 39)) := by kernel_rfl
  have hp : Tryd.prog.stoodInHeld 39 = false := by kernel_rfl
  rw [show (10000 : Nat) = 9999 + 1 from rfl, run_equalIn_agg w 9999 39 _ _ hS hp]
  simp only [Program.fieldsOf, Tryd.underlying39]
  go_simp
  by_cases h1 : a.toList = c.toList <;> by_cases h2 : b.toList = d.toList <;> simp [h1, h2]
theorem rcv {ι : Inj} {e : Rc} {v : Value} (h : RV ι (aR e) v) : v = .agg #[.string (bs e.q), .string (bs e.a)] := by
  obtain ⟨vs, rfl, hA⟩ := h
  cases hA with
  | cons h1 h2 => cases h2 with | cons h3 h4 => cases h4; obtain ⟨rfl, _⟩ := h1; obtain ⟨rfl, _⟩ := h3; rfl
theorem r_neqR {K : List (Nat × Go.Obj)} [hK : Nonempty (KOk K)] {o : Oper} {E : Env} {u : TypeId} {x y : Operand} {e e' : Rc} (ho : o.op = .binOp .neq 39 x y u) (hx : opv (cx K) E x = some (.v (aR e))) (hy : opv (cx K) E y = some (.v (aR e'))) (H : Heap) : OS (cx K) o E H (some (Vb (!(e.q == e'.q && e.a == e'.a)))) H :=
  os_val fun ι ac w hi hr => by
    have h1 := rcv (hr x (by simp [ho, Op.operands]) _ hx)
    have h2 := rcv (hr y (by simp [ho, Op.operands]) _ hy)
    refine ⟨.bool (!(e.q == e'.q && e.a == e'.a)), ?_, rfl, rfl⟩
    have hg := run_eqGuard_agg (P := Tryd.prog) w .neq 39 x y #[.string (bs e.q), .string (bs e.a)] #[.string (bs e'.q), .string (bs e'.a)] (by kernel_rfl)
    have he := run_neq_struct (P := Tryd.prog) w 39 #[.string (bs e.q), .string (bs e.a)] #[.string (bs e'.q), .string (bs e'.a)]
    rw [eqRc, bs_toList, bs_toList, bs_toList, bs_toList] at he
    simp only [execOp, ho, h1, h2]
    rw [show ((cx K) : Cx).P = Tryd.prog from rfl]
    simp only [Sem.run_bind, hg, he, Result.andThen_ok, Result.andThen, Sem.run_pure]
theorem crash_some {x : Lg} {n : Int} {d : Bool} {b : List UInt8} (h : crashF x n d = some b) : validLog x = true ∧ ∃ k : Nat, k ≤ x.n.length ∧ b = leftF x k d := by
  unfold crashF at h
  split at h
  · rename_i hc
    simp only [Bool.and_eq_true, within, decide_eq_true_eq] at hc
    exact ⟨hc.1, n.toNat, by omega, (Option.some.inj h).symm⟩
  · cases h
/-- All that the law needs of a recovered log. -/
theorem facts {x : Lg} {n : Int} {d : Bool} {b : List UInt8} (h : crashF x n d = some b) : validLog x = true ∧ b.length ≤ 24000 ∧ ∃ (l2 : Lg) (r : Nat) (R2 : List Rc), recvF b = (l2, (r : Int), true) ∧ l2.p = b.take r ∧ l2.n = [] ∧ validLog l2 = true ∧ recsF l2 = R2 ∧ r ≤ b.length ∧ x.p.length ≤ r ∧ R2 <+: recsF x ∧ R2.length ≤ 60 := by
  obtain ⟨hv, k, hk, rfl⟩ := crash_some h
  have hb := valid_bd hv
  have hl := left_len (c := d) hk
  have hrec := recover (c := d) hv hk
  have hrv := recover_valid (leftF x k d)
  refine ⟨hv, by omega, ⟨(leftF x k d).take (logF (leftF x k d)).2, [], (logF (leftF x k d)).1.length⟩, (logF (leftF x k d)).2, (logF (leftF x k d)).1, ?_, rfl, rfl, hrv.1, ?_, logF_le _, hrec.1, ?_, openF_num 60 0 _⟩
  · unfold recvF; rw [if_neg (by omega)]
  · rw [recs_yes hrv.1]; exact hrv.2
  · rw [recs_yes hv]; exact hrec.2
theorem at_pre {α : Type} {xs ys : List α} {i : Nat} {x : α} (h : xs <+: ys) (hx : xs[i]? = some x) : ys[i]? = some x := by
  obtain ⟨t, rfl⟩ := h
  rw [List.getElem?_append_left (List.getElem?_eq_some_iff.1 hx).1]; exact hx
theorem c4 {K : List (Nat × Go.Obj)} [hK : Nonempty (KOk K)] (H : Heap) {v : AC} {a : List UInt8} (hr : Rd (cx K) H 1 eC v a) (hn : a.length ≤ 2 ^ 47) : ACalls (cx K) 4 [.c v] H (Vb true) H := by
  have hl : a.length ≤ 2 ^ 50 := by omega
  obtain ⟨x, n, d, hd⟩ : ∃ x n d, drawF a = (x, n, d) := ⟨_, _, _, rfl⟩
  have hsm := draw_small a
  rw [hd] at hsm
  dsimp only at hsm
  obtain ⟨o, ho⟩ : ∃ o, crashF x n d = o := ⟨_, rfl⟩
  have hD : ∀ H1, Rd (cx K) H1 1 eC v a → ACalls (cx K) 11 [.c v] H1 (.tu [aL x, aI n, aB d]) H1 := fun H1 h => by have := c11 (K := K) H1 h hl; rwa [hd] at this
  have hI : ∀ H1, ACalls (cx K) 9 [aL x, aI n, aB d] H1 (apR o) H1 := fun H1 => by rw [← ho]; exact c9 H1 (by omega) (by omega)
  have hSp : ∀ H1, ACalls (cx K) 7 [aL x, aI n, aB d] H1 (apR o) H1 := fun H1 => by rw [← ho]; exact c7 H1 (by omega) (by omega)
  refine acalls0 Tryd.func4 rfl rfl (fun S hS hw => ?_)
  refine aw_seq ?_
  refine aw_region ?_
  refine rr_pure (rp rfl) rfl rfl rfl ?_
  refine rr_nil rfl ?_
  refine then_n ?_
  refine aw_seq ?_
  refine aw_seq ?_
  refine aw_region ?_
  refine rr_pure (rp rfl) rfl rfl rfl ?_
  refine rr_read (r_callF rfl rfl rfl (c10 _ ⟨_, _, hr⟩)) rfl rfl rfl  ?_
  refine rr_nil rfl ?_
  refine then_n ?_
  refine aw_cond rfl (fun b1 => ?_) (fun b1 => ?_)
  · have b1p := b1; try simp only [s_inj, bs_toList, nil_toList, bs_inj, u8_eq, UInt8.toNat_inj, decide_eq_true_eq, decide_eq_false_iff_not, Bool.not_eq_true', Bool.not_eq_false', bne_iff_ne, ne_eq, bne_eq_false_iff_eq, beq_iff_eq, beq_eq_false_iff_ne, Int.natCast_inj] at b1p
    refine aw_seq ?_
    refine aw_region ?_
    refine rr_pure (rp rfl) rfl rfl rfl ?_
    refine rr_nil rfl ?_
    refine then_n ?_
    refine aw_ret ?_
    refine then_r ?_
    exact fin_r rfl rfl rfl rfl
  · have b1p := b1; try simp only [s_inj, bs_toList, nil_toList, bs_inj, u8_eq, UInt8.toNat_inj, decide_eq_true_eq, decide_eq_false_iff_not, Bool.not_eq_true', Bool.not_eq_false', bne_iff_ne, ne_eq, bne_eq_false_iff_eq, beq_iff_eq, beq_eq_false_iff_ne, Int.natCast_inj] at b1p
    refine aw_skip ?_
    refine then_n ?_
    refine aw_seq ?_
    refine aw_region ?_
    refine rr_pure (rp rfl) rfl rfl rfl ?_
    refine rr_read (r_callF rfl rfl rfl (hD _ hr.app)) rfl rfl rfl  ?_
    refine rr_pure (rp rfl) rfl rfl rfl ?_
    refine rr_pure (rp rfl) rfl rfl rfl ?_
    refine rr_pure (rp rfl) rfl rfl rfl ?_
    refine rr_pure (rp rfl) rfl rfl rfl ?_
    refine rr_memL (r_allocL rfl rfl) rfl rfl rfl ?_
    refine rr_eff (r_storeL rfl rfl rfl rfl rfl rfl rfl (Nat.le_of_ble_eq_true rfl)) rfl rfl rfl (by simp) ?_
    refine rr_pure (rp rfl) rfl rfl rfl ?_
    refine rr_pure (rp rfl) rfl rfl rfl ?_
    refine rr_nil rfl ?_
    refine then_n ?_
    refine aw_seq ?_
    refine aw_region ?_
    first
      | refine rr_read (r_loadL rfl rfl rfl rfl rfl) rfl rfl rfl ?_
      | refine rr_read (r_loadA rfl rfl rfl (Rd.at (by assumption) (by assumption)) rfl) rfl rfl rfl ?_
    refine rr_pure (rp rfl) rfl rfl rfl ?_
    refine rr_pure (rp rfl) rfl rfl rfl ?_
    refine rr_read (r_callF rfl rfl rfl (hI _)) rfl rfl rfl  ?_
    refine rr_pure (rp rfl) rfl rfl rfl ?_
    refine rr_pure (rp rfl) rfl rfl rfl ?_
    refine rr_pure (rp rfl) rfl rfl rfl ?_
    refine rr_pure (rp rfl) rfl rfl rfl ?_
    refine rr_pure (rp rfl) rfl rfl rfl ?_
    refine rr_nil rfl ?_
    refine then_n ?_
    refine aw_seq ?_
    refine aw_seq ?_
    refine aw_region ?_
    first
      | refine rr_read (r_loadL rfl rfl rfl rfl rfl) rfl rfl rfl ?_
      | refine rr_read (r_loadA rfl rfl rfl (Rd.at (by assumption) (by assumption)) rfl) rfl rfl rfl ?_
    refine rr_pure (rp rfl) rfl rfl rfl ?_
    refine rr_pure (rp rfl) rfl rfl rfl ?_
    refine rr_read (r_callF rfl rfl rfl (hSp _)) rfl rfl rfl  ?_
    refine rr_pure (rp rfl) rfl rfl rfl ?_
    refine rr_pure (rp rfl) rfl rfl rfl ?_
    refine rr_pure (rp rfl) rfl rfl rfl ?_
    refine rr_pure (rp rfl) rfl rfl rfl ?_
    refine rr_pure (rp rfl) rfl rfl rfl ?_
    refine rr_nil rfl ?_
    refine then_n ?_
    refine aw_seq ?_
    refine aw_region ?_
    refine rr_pure (rp rfl) rfl rfl rfl ?_
    refine rr_pure (rp rfl) rfl rfl rfl ?_
    refine rr_pure (rp rfl) rfl rfl rfl ?_
    refine rr_pure (rp rfl) rfl rfl rfl ?_
    refine rr_split rfl (fun g2 => ?_) (fun g2 => ?_)
    · have g2p := g2; try simp only [s_inj, bs_toList, nil_toList, bs_inj, u8_eq, UInt8.toNat_inj, decide_eq_true_eq, decide_eq_false_iff_not, Bool.not_eq_true', Bool.not_eq_false', bne_iff_ne, ne_eq, bne_eq_false_iff_eq, beq_iff_eq, beq_eq_false_iff_ne, Int.natCast_inj] at g2p
      refine rr_skip rfl rfl g2 ?_
      refine rr_skip rfl rfl g2 ?_
      refine rr_skip rfl rfl g2 ?_
      refine rr_pure (r_pick_t rfl rfl g2 rfl) rfl rfl rfl ?_
      refine rr_nil rfl ?_
      refine then_n ?_
      refine aw_cond rfl (fun _ => ?_) (fun b3 => by first | cases b3 | (rw [b3] at b3; cases b3) | simp_all)
      refine aw_seq ?_
      refine aw_region ?_
      refine rr_pure (rp rfl) rfl rfl rfl ?_
      refine rr_nil rfl ?_
      refine then_n ?_
      refine aw_ret ?_
      refine then_r ?_
      exfalso; simp at g2
    · have g2p := g2; try simp only [s_inj, bs_toList, nil_toList, bs_inj, u8_eq, UInt8.toNat_inj, decide_eq_true_eq, decide_eq_false_iff_not, Bool.not_eq_true', Bool.not_eq_false', bne_iff_ne, ne_eq, bne_eq_false_iff_eq, beq_iff_eq, beq_eq_false_iff_ne, Int.natCast_inj] at g2p
      refine rr_pure (rp rfl) rfl rfl g2 ?_
      refine rr_pure (rp rfl) rfl rfl g2 ?_
      refine rr_pure (r_bbin (.inr rfl) rfl rfl rfl rfl) rfl rfl g2 ?_
      refine rr_pure (r_pick_f rfl rfl g2 rfl) rfl rfl rfl ?_
      refine rr_nil rfl ?_
      refine then_n ?_
      refine aw_cond rfl (fun b4 => ?_) (fun b4 => ?_)
      · have b4p := b4; try simp only [s_inj, bs_toList, nil_toList, bs_inj, u8_eq, UInt8.toNat_inj, decide_eq_true_eq, decide_eq_false_iff_not, Bool.not_eq_true', Bool.not_eq_false', bne_iff_ne, ne_eq, bne_eq_false_iff_eq, beq_iff_eq, beq_eq_false_iff_ne, Int.natCast_inj] at b4p
        refine aw_seq ?_
        refine aw_region ?_
        refine rr_pure (rp rfl) rfl rfl rfl ?_
        refine rr_nil rfl ?_
        refine then_n ?_
        refine aw_ret ?_
        refine then_r ?_
        exfalso; simp at b4
      · have b4p := b4; try simp only [s_inj, bs_toList, nil_toList, bs_inj, u8_eq, UInt8.toNat_inj, decide_eq_true_eq, decide_eq_false_iff_not, Bool.not_eq_true', Bool.not_eq_false', bne_iff_ne, ne_eq, bne_eq_false_iff_eq, beq_iff_eq, beq_eq_false_iff_ne, Int.natCast_inj] at b4p
        refine aw_skip ?_
        refine then_n ?_
        refine aw_seq ?_
        refine aw_seq ?_
        refine aw_region ?_
        refine rr_pure (rp rfl) rfl rfl rfl ?_
        refine rr_pure (rp rfl) rfl rfl rfl ?_
        refine rr_nil rfl ?_
        refine then_n ?_
        refine aw_cond rfl (fun b5 => ?_) (fun b5 => ?_)
        · have b5p := b5; try simp only [s_inj, bs_toList, nil_toList, bs_inj, u8_eq, UInt8.toNat_inj, decide_eq_true_eq, decide_eq_false_iff_not, Bool.not_eq_true', Bool.not_eq_false', bne_iff_ne, ne_eq, bne_eq_false_iff_eq, beq_iff_eq, beq_eq_false_iff_ne, Int.natCast_inj] at b5p
          refine aw_seq ?_
          refine aw_region ?_
          refine rr_pure (rp rfl) rfl rfl rfl ?_
          refine rr_pure (rp rfl) rfl rfl rfl ?_
          refine rr_pure (rp rfl) rfl rfl rfl ?_
          refine rr_nil rfl ?_
          refine then_n ?_
          refine aw_ret ?_
          refine then_r ?_
          exact fin_b rfl (by cases o with | none => simp [bs_toList, nil_toList] | some q => simp at b5p)
        · have b5p := b5; try simp only [s_inj, bs_toList, nil_toList, bs_inj, u8_eq, UInt8.toNat_inj, decide_eq_true_eq, decide_eq_false_iff_not, Bool.not_eq_true', Bool.not_eq_false', bne_iff_ne, ne_eq, bne_eq_false_iff_eq, beq_iff_eq, beq_eq_false_iff_ne, Int.natCast_inj] at b5p
          have hsome : o.isSome = true := b5p
          obtain ⟨b, rfl⟩ := Option.isSome_iff_exists.1 hsome
          obtain ⟨hv, hbl, l2, r, R2, f1, f2, f3, f4, f5, f6, f7, f8, f9⟩ := facts ho
          have hvb := valid_bd hv
          obtain ⟨R1, hR1⟩ : ∃ R1, recsF x = R1 := ⟨_, rfl⟩
          rw [hR1] at f8
          have hlen := f8.length_le
          have hp2 : l2.p.length ≤ 2 ^ 30 := by rw [f2, List.length_take]; omega
          have hq2 : l2.n.length ≤ 2 ^ 30 := by rw [f3]; simp
          have hRc : ∀ H1, ACalls (cx K) 12 [aS (bs b)] H1 (.tu [aL l2, aI r, aB true]) H1 := fun H1 => by have := c12 (K := K) H1 (s := b) (by omega); rwa [f1] at this
          have hLi : ∀ H1 q, H1.length = q → ACalls (cx K) 13 [aL l2] H1 (.tu [.c (svG q R2.length), aB true]) (H1 ++ [lpG (bR R2) R2.length]) := fun H1 q h => by have := c13 (K := K) h (x := l2) hp2 hq2; rwa [f5, f4] at this
          have hLs : ∀ H1 q, H1.length = q → ACalls (cx K) 14 [aL x] H1 (.tu [.c (svE q R1.length), aB true]) (H1 ++ [bR R1]) := fun H1 q h => by have := c14 (K := K) h (x := x) (by omega) (by omega); rwa [hR1, hv] at this
          refine aw_skip ?_
          refine then_n ?_
          refine aw_seq ?_
          refine aw_region ?_
          refine rr_pure (rp rfl) rfl rfl rfl ?_
          refine rr_read (r_callF rfl rfl rfl (hRc _)) rfl rfl rfl  ?_
          refine rr_pure (rp rfl) rfl rfl rfl ?_
          refine rr_pure (rp rfl) rfl rfl rfl ?_
          refine rr_pure (rp rfl) rfl rfl rfl ?_
          refine rr_pure (rp rfl) rfl rfl rfl ?_
          refine rr_memL (r_allocL rfl rfl) rfl rfl rfl ?_
          refine rr_eff (r_storeL rfl rfl rfl rfl rfl rfl rfl (Nat.le_of_ble_eq_true rfl)) rfl rfl rfl (by simp) ?_
          refine rr_pure (rp rfl) rfl rfl rfl ?_
          refine rr_pure (rp rfl) rfl rfl rfl ?_
          refine rr_nil rfl ?_
          refine then_n ?_
          refine aw_seq ?_
          refine aw_region ?_
          first
            | refine rr_read (r_loadL rfl rfl rfl rfl rfl) rfl rfl rfl ?_
            | refine rr_read (r_loadA rfl rfl rfl (Rd.at (by assumption) (by assumption)) rfl) rfl rfl rfl ?_
          refine rr_memL (r_callF rfl rfl rfl (hLi _ _ List.length_append)) rfl rfl rfl  ?_
          refine rr_pure (rp rfl) rfl rfl rfl ?_
          refine rr_pure (rp rfl) rfl rfl rfl ?_
          refine rr_pure (rp rfl) rfl rfl rfl ?_
          refine rr_pure (rp rfl) rfl rfl rfl ?_
          refine rr_pure (rp rfl) rfl rfl rfl ?_
          refine rr_nil rfl ?_
          refine then_n ?_
          refine aw_seq ?_
          refine aw_region ?_
          first
            | refine rr_read (r_loadL rfl rfl rfl rfl rfl) rfl rfl rfl ?_
            | refine rr_read (r_loadA rfl rfl rfl (Rd.at (by assumption) (by assumption)) rfl) rfl rfl rfl ?_
          refine rr_memL (r_callF rfl rfl rfl (hLs _ _ List.length_append)) rfl rfl rfl  ?_
          refine rr_pure (rp rfl) rfl rfl rfl ?_
          refine rr_pure (rp rfl) rfl rfl rfl ?_
          refine rr_pure (rp rfl) rfl rfl rfl ?_
          refine rr_pure (rp rfl) rfl rfl rfl ?_
          refine rr_pure (rp rfl) rfl rfl rfl ?_
          refine rr_nil rfl ?_
          refine then_n ?_
          refine aw_seq ?_
          refine aw_seq ?_
          refine aw_region ?_
          refine rr_pure (rp rfl) rfl rfl rfl ?_
          refine rr_pure (rp rfl) rfl rfl rfl ?_
          refine rr_pure (rp rfl) rfl rfl rfl ?_
          refine rr_split rfl (fun g6 => ?_) (fun g6 => ?_)
          · have g6p := g6; try simp only [s_inj, bs_toList, nil_toList, bs_inj, u8_eq, UInt8.toNat_inj, decide_eq_true_eq, decide_eq_false_iff_not, Bool.not_eq_true', Bool.not_eq_false', bne_iff_ne, ne_eq, bne_eq_false_iff_eq, beq_iff_eq, beq_eq_false_iff_ne, Int.natCast_inj] at g6p
            refine rr_skip rfl rfl g6 ?_
            refine rr_skip rfl rfl g6 ?_
            refine rr_skip rfl rfl g6 ?_
            refine rr_skip rfl rfl g6 ?_
            refine rr_pure (r_pick_t rfl rfl g6 rfl) rfl rfl rfl ?_
            refine rr_pure (rp rfl) rfl rfl rfl ?_
            refine rr_skip rfl rfl rfl ?_
            refine rr_skip rfl rfl rfl ?_
            refine rr_skip rfl rfl rfl ?_
            refine rr_skip rfl rfl rfl ?_
            refine rr_skip rfl rfl rfl ?_
            refine rr_pure (r_pick_t rfl rfl rfl rfl) rfl rfl rfl ?_
            refine rr_pure (rp rfl) rfl rfl rfl ?_
            refine rr_skip rfl rfl rfl ?_
            refine rr_skip rfl rfl rfl ?_
            refine rr_skip rfl rfl rfl ?_
            refine rr_skip rfl rfl rfl ?_
            refine rr_skip rfl rfl rfl ?_
            refine rr_pure (r_pick_t rfl rfl rfl rfl) rfl rfl rfl ?_
            refine rr_nil rfl ?_
            refine then_n ?_
            refine aw_cond rfl (fun _ => ?_) (fun b7 => by first | cases b7 | (rw [b7] at b7; cases b7) | simp_all)
            refine aw_seq ?_
            refine aw_region ?_
            refine rr_pure (rp rfl) rfl rfl rfl ?_
            refine rr_nil rfl ?_
            refine then_n ?_
            refine aw_ret ?_
            refine then_r ?_
            exfalso; cases g6
          · have g6p := g6; try simp only [s_inj, bs_toList, nil_toList, bs_inj, u8_eq, UInt8.toNat_inj, decide_eq_true_eq, decide_eq_false_iff_not, Bool.not_eq_true', Bool.not_eq_false', bne_iff_ne, ne_eq, bne_eq_false_iff_eq, beq_iff_eq, beq_eq_false_iff_ne, Int.natCast_inj] at g6p
            refine rr_pure (rp rfl) rfl rfl g6 ?_
            refine rr_pure (rp rfl) rfl rfl g6 ?_
            refine rr_pure (r_lenB rfl rfl rfl) rfl rfl g6 ?_
            refine rr_pure (rp rfl) rfl rfl g6 ?_
            refine rr_pure (r_pick_f rfl rfl g6 rfl) rfl rfl rfl ?_
            refine rr_pure (rp rfl) rfl rfl rfl ?_
            refine rr_split rfl (fun g8 => ?_) (fun g8 => ?_)
            · have g8p := g8; try simp only [s_inj, bs_toList, nil_toList, bs_inj, u8_eq, UInt8.toNat_inj, decide_eq_true_eq, decide_eq_false_iff_not, Bool.not_eq_true', Bool.not_eq_false', bne_iff_ne, ne_eq, bne_eq_false_iff_eq, beq_iff_eq, beq_eq_false_iff_ne, Int.natCast_inj] at g8p
              refine rr_skip rfl rfl g8 ?_
              refine rr_skip rfl rfl g8 ?_
              refine rr_skip rfl rfl g8 ?_
              refine rr_skip rfl rfl g8 ?_
              refine rr_skip rfl rfl g8 ?_
              refine rr_pure (r_pick_t rfl rfl g8 rfl) rfl rfl rfl ?_
              refine rr_pure (rp rfl) rfl rfl rfl ?_
              refine rr_skip rfl rfl rfl ?_
              refine rr_skip rfl rfl rfl ?_
              refine rr_skip rfl rfl rfl ?_
              refine rr_skip rfl rfl rfl ?_
              refine rr_skip rfl rfl rfl ?_
              refine rr_pure (r_pick_t rfl rfl rfl rfl) rfl rfl rfl ?_
              refine rr_nil rfl ?_
              refine then_n ?_
              refine aw_cond rfl (fun _ => ?_) (fun b9 => by first | cases b9 | (rw [b9] at b9; cases b9) | simp_all)
              refine aw_seq ?_
              refine aw_region ?_
              refine rr_pure (rp rfl) rfl rfl rfl ?_
              refine rr_nil rfl ?_
              refine then_n ?_
              refine aw_ret ?_
              refine then_r ?_
              exfalso; simp only [Option.getD_some] at g8p; omega
            · have g8p := g8; try simp only [s_inj, bs_toList, nil_toList, bs_inj, u8_eq, UInt8.toNat_inj, decide_eq_true_eq, decide_eq_false_iff_not, Bool.not_eq_true', Bool.not_eq_false', bne_iff_ne, ne_eq, bne_eq_false_iff_eq, beq_iff_eq, beq_eq_false_iff_ne, Int.natCast_inj] at g8p
              refine rr_pure (rp rfl) rfl rfl g8 ?_
              refine rr_pure (rp rfl) rfl rfl g8 ?_
              first
                | refine rr_read (r_loadL rfl rfl rfl rfl rfl) rfl rfl g8 ?_
                | refine rr_read (r_loadA rfl rfl rfl (Rd.at (by assumption) (by assumption)) rfl) rfl rfl g8 ?_
              refine rr_pure (r_lenB rfl rfl rfl) rfl rfl g8 ?_
              refine rr_pure (rp rfl) rfl rfl g8 ?_
              refine rr_pure (r_pick_f rfl rfl g8 rfl) rfl rfl rfl ?_
              refine rr_pure (rp rfl) rfl rfl rfl ?_
              refine rr_split rfl (fun g10 => ?_) (fun g10 => ?_)
              · have g10p := g10; try simp only [s_inj, bs_toList, nil_toList, bs_inj, u8_eq, UInt8.toNat_inj, decide_eq_true_eq, decide_eq_false_iff_not, Bool.not_eq_true', Bool.not_eq_false', bne_iff_ne, ne_eq, bne_eq_false_iff_eq, beq_iff_eq, beq_eq_false_iff_ne, Int.natCast_inj] at g10p
                refine rr_skip rfl rfl g10 ?_
                refine rr_skip rfl rfl g10 ?_
                refine rr_skip rfl rfl g10 ?_
                refine rr_skip rfl rfl g10 ?_
                refine rr_skip rfl rfl g10 ?_
                refine rr_pure (r_pick_t rfl rfl g10 rfl) rfl rfl rfl ?_
                refine rr_nil rfl ?_
                refine then_n ?_
                refine aw_cond rfl (fun _ => ?_) (fun b11 => by first | cases b11 | (rw [b11] at b11; cases b11) | simp_all)
                refine aw_seq ?_
                refine aw_region ?_
                refine rr_pure (rp rfl) rfl rfl rfl ?_
                refine rr_nil rfl ?_
                refine then_n ?_
                refine aw_ret ?_
                refine then_r ?_
                exfalso; omega
              · have g10p := g10; try simp only [s_inj, bs_toList, nil_toList, bs_inj, u8_eq, UInt8.toNat_inj, decide_eq_true_eq, decide_eq_false_iff_not, Bool.not_eq_true', Bool.not_eq_false', bne_iff_ne, ne_eq, bne_eq_false_iff_eq, beq_iff_eq, beq_eq_false_iff_ne, Int.natCast_inj] at g10p
                refine rr_pure (rp rfl) rfl rfl g10 ?_
                refine rr_pure (r_lenG rfl rfl rfl) rfl rfl g10 ?_
                refine rr_pure (rp rfl) rfl rfl g10 ?_
                first
                  | refine rr_pure (rp rfl) rfl rfl g10 ?_
                  | refine rr_pure (r_lenR rfl rfl rfl ⟨_, _, by assumption⟩) rfl rfl g10 ?_
                refine rr_pure (rp rfl) rfl rfl g10 ?_
                refine rr_pure (r_pick_f rfl rfl g10 rfl) rfl rfl rfl ?_
                refine rr_nil rfl ?_
                refine then_n ?_
                refine aw_cond rfl (fun b12 => ?_) (fun b12 => ?_)
                · have b12p := b12; try simp only [s_inj, bs_toList, nil_toList, bs_inj, u8_eq, UInt8.toNat_inj, decide_eq_true_eq, decide_eq_false_iff_not, Bool.not_eq_true', Bool.not_eq_false', bne_iff_ne, ne_eq, bne_eq_false_iff_eq, beq_iff_eq, beq_eq_false_iff_ne, Int.natCast_inj] at b12p
                  refine aw_seq ?_
                  refine aw_region ?_
                  refine rr_pure (rp rfl) rfl rfl rfl ?_
                  refine rr_nil rfl ?_
                  refine then_n ?_
                  refine aw_ret ?_
                  refine then_r ?_
                  exfalso; omega
                · have b12p := b12; try simp only [s_inj, bs_toList, nil_toList, bs_inj, u8_eq, UInt8.toNat_inj, decide_eq_true_eq, decide_eq_false_iff_not, Bool.not_eq_true', Bool.not_eq_false', bne_iff_ne, ne_eq, bne_eq_false_iff_eq, beq_iff_eq, beq_eq_false_iff_ne, Int.natCast_inj] at b12p
                  refine aw_skip ?_
                  refine then_n ?_
                  refine aw_seq ?_
                  refine aw_seq ?_
                  refine aw_here [(3, pL (H.length + 0)), (6, sS (bs b)), (10, pL (H.length + 1)), (11, sI (r : Int)), (13, sC (svG (H.length + 2) R2.length)), (15, sC (svE (H.length + 3) R1.length))] [some ⟨eL x, true, 0⟩, some ⟨eL l2, true, 0⟩, lpG (bR R2) R2.length, bR R1] (by repeat (first | exact Sub.nil _ | refine Sub.cons rfl ?_)) rfl ?_
                  refine aw_region ?_
                  refine rr_pure (rp rfl) rfl rfl rfl ?_
                  refine rr_nil rfl ?_
                  refine then_n ?_
                  refine aw_block ?_
                  refine aw_loop (σ := Nat) (fun i => [(3, pL (H.length + 0)), (6, sS (bs b)), (10, pL (H.length + 1)), (11, sI (r : Int)), (13, sC (svG (H.length + 2) R2.length)), (15, sC (svE (H.length + 3) R1.length)), (17, sI (i : Int))]) (fun _ => _) (fun i => i ≤ R2.length) (fun i => R2.length - i) (0) (by simp) (by repeat (first | exact Sub.nil _ | refine Sub.cons rfl ?_)) rfl ?_
                  intro i hi
                  refine aw_seq ?_
                  refine aw_seq ?_
                  refine aw_region ?_
                  refine rr_pure (rp rfl) rfl rfl rfl ?_
                  refine rr_pure (rp rfl) rfl rfl rfl ?_
                  refine rr_pure (r_lenG rfl rfl rfl) rfl rfl rfl ?_
                  refine rr_pure (rp rfl) rfl rfl rfl ?_
                  refine rr_nil rfl ?_
                  refine then_n ?_
                  refine aw_cond rfl (fun b13 => ?_) (fun b13 => ?_)
                  · have b13p := b13; try simp only [s_inj, bs_toList, nil_toList, bs_inj, u8_eq, UInt8.toNat_inj, decide_eq_true_eq, decide_eq_false_iff_not, Bool.not_eq_true', Bool.not_eq_false', bne_iff_ne, ne_eq, bne_eq_false_iff_eq, beq_iff_eq, beq_eq_false_iff_ne, Int.natCast_inj] at b13p
                    obtain ⟨e, hx⟩ := at_lt R2 (i := i) (by omega)
                    have hx1 := at_pre f8 hx
                    have hG : Rd (cx K) (H ++ [some ⟨eL x, true, 0⟩, some ⟨eL l2, true, 0⟩, lpG (bR R2) R2.length, bR R1]) 2 eR (svG (H.length + 2) R2.length) R2 := Rd.G (j := 2) lR rfl
                    have hE : Rd (cx K) (H ++ [some ⟨eL x, true, 0⟩, some ⟨eL l2, true, 0⟩, lpG (bR R2) R2.length, bR R1]) 2 eR (svE (H.length + 3) R1.length) R1 := Rd.svE (j := 3) lR rfl
                    refine aw_skip ?_
                    refine then_n ?_
                    refine aw_seq ?_
                    refine aw_block ?_
                    refine aw_seq ?_
                    refine aw_region_draw ?_
                    refine rr_pure (rp rfl) rfl rfl rfl ?_
                    refine rr_pure (rp rfl) rfl rfl rfl ?_
                    refine rr_pure (r_idxR rfl rfl rfl rfl rfl ⟨_, _, hG⟩ (by omega) (by omega)) rfl rfl rfl ?_
                    refine rr_read (r_load rfl rfl rfl (Rd.at hG hx) rfl) rfl rfl rfl ?_
                    refine rr_pure (rp rfl) rfl rfl rfl ?_
                    refine rr_pure (rp rfl) rfl rfl rfl ?_
                    refine rr_pure (r_idxR rfl rfl rfl rfl rfl ⟨_, _, hE⟩ (by omega) (by omega)) rfl rfl rfl ?_
                    refine rr_read (r_load rfl rfl rfl (Rd.at hE hx1) rfl) rfl rfl rfl ?_
                    refine rr_pure (r_neqR (e := e) (e' := e) rfl rfl rfl) rfl rfl rfl ?_
                    refine rr_nil (by kernel_rfl) ?_
                    refine then_n ?_
                    refine aw_cond rfl (fun b14 => ?_) (fun b14 => ?_)
                    · have b14p := b14; try simp only [s_inj, bs_toList, nil_toList, bs_inj, u8_eq, UInt8.toNat_inj, decide_eq_true_eq, decide_eq_false_iff_not, Bool.not_eq_true', Bool.not_eq_false', bne_iff_ne, ne_eq, bne_eq_false_iff_eq, beq_iff_eq, beq_eq_false_iff_ne, Int.natCast_inj] at b14p
                      refine aw_seq ?_
                      refine aw_region ?_
                      refine rr_pure (rp rfl) rfl rfl rfl ?_
                      refine rr_nil rfl ?_
                      refine then_n ?_
                      refine aw_ret ?_
                      refine inb_r ?_
                      refine then_r ?_
                      refine then_r ?_
                      refine inb_r ?_
                      refine then_r ?_
                      exfalso; simp at b14
                    · have b14p := b14; try simp only [s_inj, bs_toList, nil_toList, bs_inj, u8_eq, UInt8.toNat_inj, decide_eq_true_eq, decide_eq_false_iff_not, Bool.not_eq_true', Bool.not_eq_false', bne_iff_ne, ne_eq, bne_eq_false_iff_eq, beq_iff_eq, beq_eq_false_iff_ne, Int.natCast_inj] at b14p
                      refine aw_skip ?_
                      refine inb_n ?_
                      refine then_n ?_
                      refine aw_region ?_
                      refine rr_pure (rp rfl) rfl rfl rfl ?_
                      refine rr_pure (r_addn rfl rfl rfl ⟨by omega, by omega⟩) rfl rfl rfl ?_
                      refine rr_pure (rp rfl) rfl rfl rfl ?_
                      refine rr_nil rfl ?_
                      refine then_n ?_
                      exact ⟨i + 1, by omega, by omega, (by repeat (first | exact Sub.nil _ | refine Sub.cons rfl ?_)), rfl⟩
                  · have b13p := b13; try simp only [s_inj, bs_toList, nil_toList, bs_inj, u8_eq, UInt8.toNat_inj, decide_eq_true_eq, decide_eq_false_iff_not, Bool.not_eq_true', Bool.not_eq_false', bne_iff_ne, ne_eq, bne_eq_false_iff_eq, beq_iff_eq, beq_eq_false_iff_ne, Int.natCast_inj] at b13p
                    refine aw_exit ?_
                    refine then_x ?_
                    refine then_x ?_
                    refine inb_e ?_
                    refine then_n ?_
                    refine aw_seq ?_
                    refine aw_region_draw ?_
                    first
                      | refine rr_read (r_loadL rfl rfl rfl rfl rfl) rfl rfl rfl ?_
                      | refine rr_read (r_loadA rfl rfl rfl (Rd.at (by assumption) (by assumption)) rfl) rfl rfl rfl ?_
                    refine rr_read (r_callF rfl rfl rfl (c15 _ (x := l2) hp2 hq2)) rfl rfl rfl  ?_
                    refine rr_pure (rp rfl) rfl rfl rfl ?_
                    refine rr_split rfl (fun g15 => ?_) (fun g15 => ?_)
                    · have g15p := g15; try simp only [s_inj, bs_toList, nil_toList, bs_inj, u8_eq, UInt8.toNat_inj, decide_eq_true_eq, decide_eq_false_iff_not, Bool.not_eq_true', Bool.not_eq_false', bne_iff_ne, ne_eq, bne_eq_false_iff_eq, beq_iff_eq, beq_eq_false_iff_ne, Int.natCast_inj] at g15p
                      refine rr_pure (rp rfl) rfl rfl g15 ?_
                      first
                        | refine rr_read (r_loadL rfl rfl rfl rfl rfl) rfl rfl g15 ?_
                        | refine rr_read (r_loadA rfl rfl rfl (Rd.at (by assumption) (by assumption)) rfl) rfl rfl g15 ?_
                      refine rr_pure (rp rfl) rfl rfl g15 ?_
                      refine rr_pure (rp rfl) rfl rfl g15 ?_
                      refine rr_pure (r_subTo (h := r) rfl rfl rfl rfl f6) rfl rfl g15 ?_
                      refine rr_pure (rp rfl) rfl rfl g15 ?_
                      refine rr_pure (r_pick_t rfl rfl g15 rfl) rfl rfl rfl ?_
                      refine rr_pure (rp rfl) rfl rfl rfl ?_
                      refine rr_nil (by kernel_rfl) ?_
                      refine then_n ?_
                      refine aw_ret ?_
                      exact fin_b rfl (by rw [f2]; simp)
                    · have g15p := g15; try simp only [s_inj, bs_toList, nil_toList, bs_inj, u8_eq, UInt8.toNat_inj, decide_eq_true_eq, decide_eq_false_iff_not, Bool.not_eq_true', Bool.not_eq_false', bne_iff_ne, ne_eq, bne_eq_false_iff_eq, beq_iff_eq, beq_eq_false_iff_ne, Int.natCast_inj] at g15p
                      refine rr_skip rfl rfl g15 ?_
                      refine rr_skip rfl rfl g15 ?_
                      refine rr_skip rfl rfl g15 ?_
                      refine rr_skip rfl rfl g15 ?_
                      refine rr_skip rfl rfl g15 ?_
                      refine rr_skip rfl rfl g15 ?_
                      refine rr_pure (r_pick_f rfl rfl g15 rfl) rfl rfl rfl ?_
                      refine rr_pure (rp rfl) rfl rfl rfl ?_
                      refine rr_nil (by kernel_rfl) ?_
                      refine then_n ?_
                      refine aw_ret ?_
                      exfalso; rw [f4] at g15; cases g15
end Go.Proofs.YtfdopoijhjbamaaDoor
