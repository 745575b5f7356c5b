/- Strings as lists of bytes. -/
import Derived.Test.YtfdopoijhjbamaaDoorAwW
import Derived.Test.YtfdopoijhjbamaaDoorAwS
import Derived.Lib.Strings
import Derived.Lib.ConvBytes
import Derived.Lib.BufferRead
import Derived.Laws.IdiomStrings
import Derived.WideShapes
namespace Go.Aw
set_option linter.unusedVariables false
set_option linter.unusedSimpArgs false
/-- The string of a list of bytes. -/
def bs (l : List UInt8) : ByteArray := ⟨l.toArray⟩
theorem bs_size (l : List UInt8) : (bs l).size = l.length := rfl
theorem bs_data (l : List UInt8) : (bs l).data.toList = l := rfl
theorem bs_toList (l : List UInt8) : (bs l).toList = l := by rw [Lib.toList_data]; rfl
theorem bs_eta (s : ByteArray) : bs s.data.toList = s := WideShapes.bytes_inj rfl
theorem bs_inj {a b : List UInt8} : bs a = bs b ↔ a = b := ⟨fun h => by have := congrArg (fun s : ByteArray => s.data.toList) h; simpa [bs_data] using this, fun h => by rw [h]⟩
theorem s_inj {a b : ByteArray} : a.toList = b.toList ↔ a = b :=
  ⟨fun h => WideShapes.bytes_inj (by rwa [Lib.toList_data, Lib.toList_data] at h), fun h => by rw [h]⟩
theorem bs_append (a b : List UInt8) : bs a ++ bs b = bs (a ++ b) := WideShapes.bytes_inj (by simp [bs])
theorem bs_extract (l : List UInt8) (a b : Nat) : (bs l).extract a b = bs ((l.take b).drop a) := WideShapes.bytes_inj (by
  simp [bs, ByteArray.data_extract, List.drop_take])
theorem u8_eq {a b : UInt8} : ((a.toNat : Int) = (b.toNat : Int)) ↔ a = b := by
  rw [Int.natCast_inj]; exact ⟨UInt8.toNat_inj.1, fun h => by rw [h]⟩
section
variable {X : Cx} {o : Oper} {E : Env} {H : Heap}
theorem r_catB {t u : TypeId} {x y : Operand} {a b : List UInt8} (ho : o.op = .binOp .add t x y u) (hx : opv X E x = some (Vs (bs a))) (hy : opv X E y = some (Vs (bs b))) (h : a.length + b.length ≤ 9223372036854775807) (H : Heap) : OS X o E H (some (Vs (bs (a ++ b)))) H := by
  rw [← bs_append]; exact r_cat ho hx hy h H
theorem r_lenB {t a b : Nat} {z : List ZC} {x : Operand} {l : List UInt8} (ho : o.op = .call { callee := .builtin .len, args := #[x], argTypes := #[t] }) (ht : X.ty t = some ⟨.str, a, b, z⟩) (hx : opv X E x = some (Vs (bs l))) (H : Heap) : OS X o E H (some (I64 l.length)) H := r_lens ho (ty_str ht) hx H
theorem r_indexB {t u a b : Nat} {z : List ZC} {x y : Operand} {l : List UInt8} {k : IntKind} {i : Int} {c : UInt8} (ho : o.op = .index t x y) (ht : X.ty t = some ⟨.str, a, b, z⟩) (hx : opv X E x = some (Vs (bs l))) (hy : opv X E y = some (Vi k i)) (hc : l[i.toNat]? = some c) (h0 : 0 ≤ i) (H : Heap) :
    OS X o E H (some (Vi .u8 (c.toNat : Int))) H := by
  have hlt := (List.getElem?_eq_some_iff.1 hc).1
  have := r_index (u := u) ho (ty_str ht) hx hy h0 (by rw [bs_size]; omega) H
  rw [bs_data, List.getD_eq_getElem?_getD, hc] at this
  exact this
theorem r_subTo {t a b : Nat} {z : List ZC} {x y : Operand} {l : List UInt8} {h : Nat} (ho : o.op = .slice t x none (some y) none) (ht : X.ty t = some ⟨.str, a, b, z⟩) (hx : opv X E x = some (Vs (bs l))) (hy : opv X E y = some (I64 (h : Int))) (hh : h ≤ l.length) (H : Heap) : OS X o E H (some (Vs (bs (l.take h)))) H := by
  have := r_sub (l := 0) (h := h) ho (ty_str ht) hx rfl hy (by omega) hh H
  rw [bs_extract] at this
  exact this
theorem r_subFrom {t a b : Nat} {z : List ZC} {x y : Operand} {l : List UInt8} {h : Nat} (ho : o.op = .slice t x (some y) none none) (ht : X.ty t = some ⟨.str, a, b, z⟩) (hx : opv X E x = some (Vs (bs l))) (hy : opv X E y = some (I64 (h : Int))) (hh : h ≤ l.length) (H : Heap) : OS X o E H (some (Vs (bs (l.drop h)))) H := by
  have := r_sub (l := h) (h := l.length) ho (ty_str ht) hx hy rfl hh (Nat.le_refl _) H
  rw [bs_extract, List.take_length] at this
  exact this
theorem r_subB {t a b : Nat} {z : List ZC} {x y y' : Operand} {l : List UInt8} {g h : Nat} (ho : o.op = .slice t x (some y) (some y') none) (ht : X.ty t = some ⟨.str, a, b, z⟩) (hx : opv X E x = some (Vs (bs l))) (hy : opv X E y = some (I64 (g : Int))) (hy' : opv X E y' = some (I64 (h : Int))) (hg : g ≤ h) (hh : h ≤ l.length) (H : Heap) : OS X o E H (some (Vs (bs ((l.take h).drop g)))) H := by
  have := r_sub (l := g) (h := h) ho (ty_str ht) hx hy hy' hg hh H
  rw [bs_extract] at this
  exact this
theorem r_subR {t a b : Nat} {z : List ZC} {x y y' : Operand} {l r : List UInt8} {g h : Nat} (hr : (l.take h).drop g = r) (ho : o.op = .slice t x (some y) (some y') none) (ht : X.ty t = some ⟨.str, a, b, z⟩) (hx : opv X E x = some (Vs (bs l))) (hy : opv X E y = some (I64 (g : Int))) (hy' : opv X E y' = some (I64 (h : Int))) (hg : g ≤ h) (hh : h ≤ l.length) (H : Heap) : OS X o E H (some (Vs (bs r))) H := by
  subst hr; exact r_subB ho ht hx hy hy' hg hh H
theorem r_subFromR {t a b : Nat} {z : List ZC} {x y : Operand} {l r : List UInt8} {h : Nat} (hr : l.drop h = r) (ho : o.op = .slice t x (some y) none none) (ht : X.ty t = some ⟨.str, a, b, z⟩) (hx : opv X E x = some (Vs (bs l))) (hy : opv X E y = some (I64 (h : Int))) (hh : h ≤ l.length) (H : Heap) : OS X o E H (some (Vs (bs r))) H := by
  subst hr; exact r_subFrom ho ht hx hy hh H
theorem r_conv8 {s d a b a' b' : Nat} {z z' : List ZC} {x : Operand} {c : UInt8} (ho : o.op = .convert s d x) (hs : X.ty s = some ⟨.int .u8, a, b, z⟩) (hd : X.ty d = some ⟨.int .i64, a', b', z'⟩) (hx : opv X E x = some (Vi .u8 (c.toNat : Int))) (H : Heap) : OS X o E H (some (I64 (c.toNat : Int))) H := by
  have := r_conv ho (ty_int hs) (ty_int hd) hx H
  rw [wrap64_id (by omega) (by have := c.toNat_lt; omega)] at this
  exact this
theorem r_quoN {t u : TypeId} {x y : Operand} {a b : Nat} (ho : o.op = .binOp .quo t x y u) (hx : opv X E x = some (I64 (a : Int))) (hy : opv X E y = some (I64 (b : Int))) (hb : 0 < b) (ha : a ≤ 2 ^ 62) (H : Heap) : OS X o E H (some (I64 ((a / b : Nat) : Int))) H := by
  have := r_quo ho hx hy (by omega) H
  have e : (a : Int).tdiv (b : Int) = ((a / b : Nat) : Int) := rfl
  have h2 := Nat.div_le_self a b
  rw [e] at this
  generalize a / b = q at *
  rw [wrap64_id (by omega) (by omega)] at this
  exact this
theorem r_remN {t u : TypeId} {x y : Operand} {a b : Nat} (ho : o.op = .binOp .rem t x y u) (hx : opv X E x = some (I64 (a : Int))) (hy : opv X E y = some (I64 (b : Int))) (hb : 0 < b) (H : Heap) : OS X o E H (some (I64 ((a % b : Nat) : Int))) H := by
  have := r_rem ho hx hy (by omega) H
  exact this

/-- A list that grows from nil on: its slice and its block. -/
def svG (n : Nat) : Nat → AC
  | 0 => .ns
  | k + 1 => .sl (.l n) 0 (k + 1) (k + 1) false
def lpG (b : Option Blk) : Nat → Option Blk
  | 0 => none
  | _ + 1 => b
theorem ren_svG (n : Nat) (r : List Nat) (j k : Nat) : (svG (n + j) k).ren n r = svG (n + r.getD j 0) k := by
  cases k with
  | zero => rfl
  | succ k => simp only [svG, AC.ren, renB_add]
theorem lo_svG {n m k : Nat} (h : n < m) : Lo m (svG n k).ids := by
  intro q hq
  cases k with
  | zero => simp [svG, AC.ids] at hq
  | succ k => simp only [svG, AC.ids, List.mem_singleton] at hq; cases hq; exact h
theorem mv_G {n i k : Nat} {L : Heap} {b : Blk} (h : L[i]? = some (lpG (some b) k)) (hc : ∀ c ∈ b.cells, c.ids = []) : Mv n [i] L [lpG (some b) k] := by
  cases k with
  | succ k => exact mv_one h hc
  | zero => exact ⟨rfl, by simp, fun j k' hj => by cases j with | zero => simp [lpG] at hj | succ j => simp at hj, fun j k' hj => by cases j with | zero => simp [lpG] at hj | succ j => simp at hj⟩
theorem Rd.G {α : Type} {enc : α → List AC} {sz j z : Nat} {L : Heap} {ys : List α} (hs : ∀ x, (enc x).length = sz) (h : L[j]? = some (lpG (some ⟨ys.flatMap enc, true, z⟩) ys.length)) : Rd X (H ++ L) sz enc (svG (H.length + j) ys.length) ys := by
  cases ys with
  | nil => rfl
  | cons y ys => exact Rd.own hs h rfl
/-- A list that grows from an empty slice on. -/
def svE (n k : Nat) : AC := .sl (.l n) 0 k k (k == 0)
theorem svE_pos {n k : Nat} (h : 0 < k) : svE n k = .sl (.l n) 0 k k false := by
  unfold svE; congr 1; simp; omega
theorem ren_svE (n : Nat) (r : List Nat) (j k : Nat) : (svE (n + j) k).ren n r = svE (n + r.getD j 0) k := by
  simp only [svE, AC.ren, renB_add]
theorem lo_svE {n m k : Nat} (h : n < m) : Lo m (svE n k).ids := by
  intro q hq
  simp only [svE, AC.ids, List.mem_singleton] at hq; cases hq; exact h
theorem Rd.svE {α : Type} {enc : α → List AC} {sz j z : Nat} {L : Heap} {ys : List α} (hs : ∀ x, (enc x).length = sz) (h : L[j]? = some (some ⟨ys.flatMap enc, true, z⟩)) : Rd X (H ++ L) sz enc (svE (H.length + j) ys.length) ys := Rd.own hs h rfl
theorem r_appE {α : Type} {enc : α → List AC} {t el j : Nat} {x y : Operand} {s1 b1 : Nat} {zz1 : List ZC} {d : TD} {L : Heap} {v : AC} {ys : List α} {z : α} (ho : o.op = .call { callee := .builtin .append, args := #[x, y], argTypes := #[t, t] }) (ht : X.ty t = some ⟨.slice el, s1, b1, zz1⟩) (he : X.ty el = some d)
    (hx : opv X E x = some (.v (.c (svE (H.length + j) ys.length)))) (hy : opv X E y = some (.v (.c v))) (hk : L[j]? = some (some ⟨ys.flatMap enc, true, d.size⟩)) (hs : ∀ x, (enc x).length = d.size) (hr : Rd X (H ++ L) d.size enc v [z])
    (hb : (ys.length + 1) * d.bytes ≤ 140737488355328) (h63 : ys.length + 1 ≤ 4611686018427387904) (hp : Nat.blt 0 d.size = true := by rfl) :
    OS X o E (H ++ L) (some (.v (.c (svE (H.length + L.length) (ys ++ [z]).length)))) (H ++ (L.set j none ++ [some ⟨(ys ++ [z]).flatMap enc, true, d.size⟩])) := by
  have := r_appR (H := H) ho ht he hx hy hk rfl hs hr (by simpa using hb) (by simpa using h63) hp
  rw [svE_pos (by simp)]
  have e : (ys ++ [z]).length = ys.length + [z].length := by simp
  rw [e]
  exact this
theorem slen_svG (n k : Nat) : slen (.v (.c (svG n k))) = some k := by cases k <;> rfl
theorem r_lenG {t e s1 b1 n k : Nat} {z1 : List ZC} {x : Operand} (ho : o.op = .call { callee := .builtin .len, args := #[x], argTypes := #[t] }) (ht : X.ty t = some ⟨.slice e, s1, b1, z1⟩) (hx : opv X E x = some (.v (.c (svG n k)))) (H : Heap) : OS X o E H (some (I64 k)) H :=
  r_len ho (ty_slice ht) hx (slen_svG n k) H
theorem r_appG {α : Type} {enc : α → List AC} {t el j : Nat} {x y : Operand} {s1 b1 : Nat} {zz1 : List ZC} {d : TD} {L : Heap} {v : AC} {ys : List α} {z : α} (ho : o.op = .call { callee := .builtin .append, args := #[x, y], argTypes := #[t, t] }) (ht : X.ty t = some ⟨.slice el, s1, b1, zz1⟩) (he : X.ty el = some d)
    (hx : opv X E x = some (.v (.c (svG (H.length + j) ys.length)))) (hy : opv X E y = some (.v (.c v))) (hk : L[j]? = some (lpG (some ⟨ys.flatMap enc, true, d.size⟩) ys.length)) (hs : ∀ x, (enc x).length = d.size) (hr : Rd X (H ++ L) d.size enc v [z])
    (hb : (ys.length + 1) * d.bytes ≤ 140737488355328) (h63 : ys.length + 1 ≤ 4611686018427387904) (hp : Nat.blt 0 d.size = true := by rfl) :
    OS X o E (H ++ L) (some (.v (.c (svG (H.length + L.length) (ys ++ [z]).length)))) (H ++ (L.set j none ++ [lpG (some ⟨(ys ++ [z]).flatMap enc, true, d.size⟩) (ys ++ [z]).length])) := by
  cases ys with
  | nil =>
    have := r_app_nil (ty := 0) (H := H ++ L) ho ht he hx hy (src_R hr) (by simp) (by simpa using hb) (by unfold maxLen; simp)
    rw [List.length_append] at this
    have e : L.set j none = L := set_same (by simpa [lpG] using hk)
    rw [e, ← List.append_assoc]
    exact this
  | cons q ys =>
    have := r_appR (H := H) ho ht he hx hy hk rfl hs hr (by simpa using hb) (by simpa using h63) hp
    have e : ((q :: ys) ++ [z]).length = (q :: ys).length + [z].length := by simp
    rw [e]
    exact this

/-- Bytes of a string as cells. -/
def eC (c : UInt8) : List AC := [.s (.int .u8 (c.toNat : Int))]
theorem lC : ∀ x, (eC x).length = 1 := fun _ => rfl
theorem pC : ∀ x, ∀ c ∈ eC x, c.ids = [] := fun x c hc => by simp only [eC, List.mem_singleton] at hc; subst hc; rfl
theorem wrap8_id {n : Int} (h1 : 0 ≤ n) (h2 : n ≤ 255) : IntKind.u8.wrap n = n := by
  simp [IntKind.wrap, IntKind.bits, IntKind.signed]
  try omega
theorem r_sub8 {t u : TypeId} {x y : Operand} {a b : Int} (ho : o.op = .binOp .sub t x y u) (hx : opv X E x = some (Vi .u8 a)) (hy : opv X E y = some (Vi .u8 b)) (h : 0 ≤ a - b ∧ a - b ≤ 255) (H : Heap) :
    OS X o E H (some (Vi .u8 (a - b))) H := r_bin ho hx hy (by simp only [ibin, wrap8_id h.1 h.2]) H
theorem flatC_get (l : List UInt8) (j : Nat) : (l.flatMap eC)[j]? = (l[j]?).map fun c => AC.s (.int .u8 (c.toNat : Int)) := by
  induction l generalizing j with
  | nil => simp
  | cons a l ih =>
    cases j with
    | zero => simp [eC]
    | succ j =>
      rw [List.flatMap_cons, show eC a ++ l.flatMap eC = AC.s (.int .u8 (a.toNat : Int)) :: l.flatMap eC from rfl, List.getElem?_cons_succ, List.getElem?_cons_succ, ih]
/-- A string as a row of bytes of its own. -/
theorem r_toBytes {s d e a1 b1 a2 b2 a3 b3 : Nat} {z1 z2 z3 : List ZC} {x : Operand} {l : List UInt8} {H L : Heap} (ho : o.op = .convert s d x) (hs : X.ty s = some ⟨.str, a1, b1, z1⟩) (hd : X.ty d = some ⟨.slice e, a2, b2, z2⟩) (he : X.ty e = some ⟨.int .u8, a3, b3, z3⟩)
    (hx : opv X E x = some (Vs (bs l))) (h63 : l.length ≤ 4611686018427387904) : OS X o E (H ++ L) (some (.v (.c (.sl (.l (H.length + L.length)) 0 l.length l.length false)))) (H ++ L ++ [some ⟨l.flatMap eC, true, 0⟩]) := by
  rw [← List.length_append]
  generalize H ++ L = H
  exact os_step fun ι a w hi hn hr => by
    obtain ⟨hx', _⟩ : a.eval x = .string (bs l) ∧ _ := hr x (by simp [ho, Op.operands]) _ hx
    have hrun := Lib.run_convert_string_bytes (P := X.P) w s d e (bs l) (ty_str hs) (ty_slice hd) (ty_int he)
    have hge : (bs l).size ≤ grownCap w (bs l).size 0 e := grownCap_ge w _ 0 e
    have hmax := grownCap_le_maxLen w (bs l).size 0 e (by unfold maxLen; have : (bs l).size = l.length := rfl; omega)
    have hsz : (Lib.bytesCells w e (bs l)).size = grownCap w (bs l).size 0 e := by
      simp only [Lib.bytesCells, Array.size_append, Array.size_map, Array.size_replicate]
      show (bs l).size + _ = _
      omega
    refine ⟨upd ι H.length ⟨w.heap.size, 0, (Lib.bytesCells w e (bs l)).size, 0⟩, .slice (some ⟨w.heap.size, 0, none⟩) (bs l).size (grownCap w (bs l).size 0 e), Lib.bytesWorld w e (bs l), ?_, ?_, ?_⟩
    · simp only [execOp, ho, hx']
      simp [hrun]
    · exact ⟨_, grownCap w (bs l).size 0 e, upd_same _ _ _, rfl, hge, hge, (fun h => by cases h), hmax, by simp⟩
    · refine step_newF hi hn (fr := ((Lib.bytesCells w e (bs l)).size, (Lib.bytesCells w e (bs l)).size + 1)) (t := e) ?_ rfl rfl rfl (.inr ⟨rfl, Nat.le_refl _⟩) ?_ ?_
      · apply Array.ext_getElem?
        intro q
        rw [Array.getElem?_push]
        by_cases hq : q = w.heap.size
        · subst hq; rw [if_pos rfl, Lib.bytesWorld_at_new]
        · rw [if_neg hq]
          by_cases hq' : q < w.heap.size
          · exact Lib.bytesWorld_at_old w e (bs l) q hq'
          · rw [Array.getElem?_eq_none (by rw [Lib.bytesWorld_size]; omega), Array.getElem?_eq_none (by omega)]
      · rw [flatMap_len lC, hsz]; show l.length * 1 ≤ _; have : (bs l).size = l.length := rfl; omega
      · intro q c hq
        rw [flatC_get] at hq
        cases hl : l[q]? with
        | none => rw [hl] at hq; cases hq
        | some b =>
          rw [hl] at hq
          cases hq
          have hlt : q < (bs l).size := (List.getElem?_eq_some_iff.1 hl).1
          refine ⟨.int .u8 (b.toNat : Int), ?_, rfl, rfl⟩
          rw [Lib.bytesCells, Array.getElem?_append_left (by simpa using hlt), Array.getElem?_map]
          have : (bs l).data[q]? = some b := by rw [← Array.getElem?_toList]; exact hl
          rw [this]; rfl
/-- A row of bytes as a string. -/
theorem r_ofBytes {s d e a1 b1 a2 b2 a3 b3 : Nat} {z1 z2 z3 : List ZC} {x : Operand} {v : AC} {l : List UInt8} {H : Heap} (ho : o.op = .convert s d x) (hs : X.ty s = some ⟨.slice e, a2, b2, z2⟩) (hd : X.ty d = some ⟨.str, a1, b1, z1⟩) (he : X.ty e = some ⟨.int .u8, a3, b3, z3⟩)
    (hx : opv X E x = some (.v (.c v))) (hr' : Rd X H 1 eC v l) : OS X o E H (some (Vs (bs l))) H :=
  os_val fun ι a w hi hr => by
    obtain ⟨ao, c, vs, e2, hl, hA, hno, hc⟩ := src_sound hi (hr x (by simp [ho, Op.operands]) _ hx) (src_R hr')
    refine ⟨.string (bs l), ?_, rfl, rfl⟩
    simp only [Nat.mul_one] at hl
    cases ao with
    | none =>
      obtain ⟨h0, rfl⟩ := hno rfl
      have : l = [] := List.length_eq_zero_iff.1 h0
      subst this
      have := Lib.run_convert_nil_bytes (P := X.P) w s d e 0 (ty_slice hs) (ty_int he) (ty_str hd)
      simp only [execOp, ho, e2]
      simp [this]
      rfl
    | some ad =>
      have := run_convert_bytes_back (P := X.P) w s d e ad c l (ty_slice hs) (ty_int he) (ty_str hd) (fun j hj => by
        obtain ⟨u, a1, a2⟩ := hA.get j _ (by rw [flatC_get, List.getElem?_eq_getElem hj]; rfl)
        rw [hc ad rfl j u a1]
        obtain ⟨rfl, _⟩ := a2
        rfl)
      simp only [execOp, ho, e2]
      simp [this]
      rfl
end
end Go.Aw
