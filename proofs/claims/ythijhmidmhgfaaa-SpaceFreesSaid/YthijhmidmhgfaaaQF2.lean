/- The law SpaceFrees of this seat: coffer/cofferlaw09.SpaceFrees returns true for every input, and its arguments read as they did.
Space: its state; what is asked of its transaction.
Bytes: rows, copies, equality; bits of a byte.
Space: used, and the bits of its bitmap.
Space: its bitmap.
Space: lay.
Space: lay, walked.
Space: the free blocks; Left.
Space: Alloc's own function.
Space: the walk of free under Alloc.
Space: Alloc.
Space: an Alloc of too many.
Space: Free.
Space: Make.
Space: the plain law of its bitmap.
Space: contracts over the list of free blocks.
Space's laws: made, begun, least.
Space's laws: the examples at the head.
SpaceAll: what the law holds.
SpaceFrees: facts on lists.
SpaceFrees: the walk.
What a law's contract gives its row: true is told, and what came in reads as it did.
What comes in: a row of numbers. -/
import Derived.Test.YthijhmidmhgfaaaProg
import Derived.WalkKit
import Derived.ProofKit
import Derived.OpenShut
import Derived.ShutString
import Derived.Deep.DeepHandedRow
import Derived.Lib.LaidTab
import Derived.Deep.Slices
import Derived.Deep.Fields
import Derived.ChangeSame
import Derived.SizedLaws
import Derived.Test.YthijhmidmhgfaaaRows
import Derived.Test.YthijhmidmhgfaaaQF1
set_option linter.unusedVariables false
set_option linter.unusedSimpArgs false
namespace Go.Proofs.Ythijhmidmhgfaaa
open Go.RowKit Go.Proofs.YthijhmidmhgfaaaW.PrintWords Go.Proofs.YthijhmidmhgfaaaW.PrintLast Go.Maps Go.ChangeMaps
/-- a live transaction over a live log -/
structure TxOk (w : World) (bt bm bl bd : Nat) (m : List (Int × List UInt8)) (F : Nat → Prop) (size : Int) (d : Dk) : Prop where
  tx : TxIs w bt bm bl m false
  log : LogIs w bl bd F size false d
  on : d.off = false
  len : d.seen.length ≤ 8192
  s0 : 0 ≤ size
  s1 : size < (d.seen.length : Int)
  nt : ¬ F bt
  nm : ¬ F bm
  sorted : m.Pairwise fun a b => a.1 < b.1
  secs : ∀ t ∈ d.seen, t.length = 512
  keys : ∀ x ∈ m, 0 ≤ x.1 ∧ x.1 < (d.seen.length : Int) - size ∧ x.2.length = 512
theorem TxOk.below {w w1 : World} {bt bm bl bd : Nat} {m : List (Int × List UInt8)} {F : Nat → Prop} {size : Int} {d : Dk} (h : TxOk w bt bm bl bd m F size d) (hb : Below w.heap.size w w1) : TxOk w1 bt bm bl bd m F size d :=
  { h with tx := h.tx.below hb, log := h.log.below hb }
theorem sorted_len : ∀ (m : List (Int × List UInt8)) (a b : Int), (∀ x ∈ m, a ≤ x.1 ∧ x.1 < b) → (m.Pairwise fun a b => a.1 < b.1) → a ≤ b → (m.length : Int) ≤ b - a
  | [], a, b, _, _, h => by simp; omega
  | x :: r, a, b, h1, h2, h3 => by
    rw [List.pairwise_cons] at h2
    have hx := h1 x List.mem_cons_self
    have := sorted_len r (x.1 + 1) b (fun y hy => ⟨by have := h2.1 y hy; omega, (h1 y (List.mem_cons_of_mem _ hy)).2⟩) h2.2 (by omega)
    simp only [List.length_cons]
    omega
theorem TxOk.cnt {w : World} {bt bm bl bd : Nat} {m : List (Int × List UInt8)} {F : Nat → Prop} {size : Int} {d : Dk} (h : TxOk w bt bm bl bd m F size d) : m.length ≤ 8192 := by
  have h1 := sorted_len m 0 ((d.seen.length : Int) - size) (fun x hx => ⟨(h.keys x hx).1, (h.keys x hx).2.1⟩) h.sorted (by have := h.s1; omega)
  have := h.len
  have := h.s0
  omega
theorem getW_none {m : List (Int × List UInt8)} {n : Int} (h : ∀ x ∈ m, x.1 ≠ n) : getW m n = none := by
  unfold getW
  rw [List.find?_eq_none.2 (fun x hx => by simpa using h x hx)]
  rfl
theorem getW_mem {m : List (Int × List UInt8)} {n : Int} {t : List UInt8} (h : getW m n = some t) : (n, t) ∈ m := by
  unfold getW at h
  cases hf : m.find? fun p => p.1 == n with
  | none => rw [hf] at h; cases h
  | some p =>
    rw [hf] at h
    have h1 := List.find?_some hf
    have h2 := List.mem_of_find?_eq_some hf
    obtain ⟨a, b⟩ := p
    have e : a = n := by simpa using h1
    subst e
    have e2 : b = t := by simpa using h
    subst e2
    exact h2
section
variable {w : World} {bt bm bl bd : Nat} {m : List (Int × List UInt8)} {F : Nat → Prop} {size : Int} {d : Dk}
theorem TxOk.read (h : TxOk w bt bm bl bd m F size d) (n : Int) (h0 : -9223372036854775808 ≤ n) (h1 : n ≤ 9223372036854775807) :
    Calls Try.prog 18 #[.pointer (some ⟨bt, 0, none⟩), .int .i64 n] w fun e w' => e = .returned (.tuple #[.string (bs (txReadV size d m n).1), .int .i64 (txReadV size d m n).2]) ∧ Below w.heap.size w w' :=
  txRead w bt bm bl bd m F size d n h.tx h.log h.on h.len h.s0 (by have := h.s1; have := h.len; omega) (wf_i64 n h0 h1)
theorem TxOk.blocks (h : TxOk w bt bm bl bd m F size d) : Calls Try.prog 25 #[.pointer (some ⟨bt, 0, none⟩)] w fun e w' => e = .returned (.int .i64 ((d.seen.length : Int) - size)) ∧ Below w.heap.size w w' :=
  txblocks w bt bm bl bd m false F size false d h.tx h.log h.len h.s0 (by have := h.s1; have := h.len; omega)
end
/-- blocks of a log, and blocks of its bitmap -/
def nBl (size : Int) (d : Dk) : Int := (d.seen.length : Int) - size
def nBm (size : Int) (d : Dk) : Int := (nBl size d + 4095) / 4096
theorem spOver (w : World) (bt bm bl bd : Nat) (m : List (Int × List UInt8)) (F : Nat → Prop) (size : Int) (d : Dk) (h : TxOk w bt bm bl bd m F size d) : Calls Try.prog 44 #[.pointer (some ⟨bt, 0, none⟩)] w fun e w' => e = .returned (.bool false) ∧ Below w.heap.size w w' := by
  have HR := Lib.hid (h.read (-1) (by decide) (by decide))
  rw [show txReadV size d m (-1) = ([], 1) by
    unfold txReadV
    rw [getW_none (fun x hx => by have := (h.keys x hx).1; omega)]
    unfold logReadV
    rw [if_pos (.inl (by decide))]] at HR
  clear h
  go_enter Try.func44, Try.ntmps44
  go_wp2_with (go_at_call 18; (with_reducible refine (HR.out).mono ?_); rintro e w1 ⟨rfl, hb⟩)
  go_ret
  exact ⟨rfl, hb⟩
theorem spBlocks (w : World) (bt bm bl bd : Nat) (m : List (Int × List UInt8)) (F : Nat → Prop) (size : Int) (d : Dk) (h : TxOk w bt bm bl bd m F size d) : Calls Try.prog 71 #[.pointer (some ⟨bt, 0, none⟩)] w fun e w' => e = .returned (.int .i64 (nBm size d)) ∧ Below w.heap.size w w' := by
  have HB := Lib.hid h.blocks
  have b1 := h.len
  have b2 := h.s0
  have b3 := h.s1
  have HN : Hid (nBm size d = ((d.seen.length : Int) - size + 4096 - 1) / 4096) := Lib.hid (by unfold nBm nBl; omega)
  clear h
  generalize d.seen.length = n at *
  go_enter Try.func71, Try.ntmps71
  go_wp2_with (go_at_call 25; (with_reducible refine (HB.out).mono ?_); rintro e w1 ⟨rfl, hb⟩)
  go_ret
  refine ⟨?_, hb⟩
  rw [HN.out]
  rfl
structure SpIs (w : World) (bs bt : Nat) (first : Int) : Prop where
  blk : w.heap[bs]? = some (.cells #[.pointer (some ⟨bt, 0, none⟩), .int .i64 first] 87 (0, 0))
theorem SpIs.below {w w1 : World} {bs bt : Nat} {first : Int} (h : SpIs w bs bt first) (hb : Below w.heap.size w w1) : SpIs w1 bs bt first := ⟨blk_below h.blk hb⟩
theorem SpIs.touch {w w1 : World} {bs bt : Nat} {first : Int} {G : Nat → Prop} (h : SpIs w bs bt first) (ht : Touch G w w1) (hn : ¬ G bs) : SpIs w1 bs bt first := ⟨ht.blk h.blk hn⟩
theorem plKept : Plan (opsOf Try.f49 1) [] [0, 1, 2, 3, 5, 6, 7, 4, 8, 9, 10, 11, 12] [0, 0, 0, 0, 1, 0, 0, 0, 1, 2, 0, 0, 0] := plan_mk (true, [([], []), ([], []), ([1], [1]), ([2], [2]), ([3], [3]), ([], []), ([5], [5]), ([6], [6]), ([7], [7]), ([8], [8]), ([4, 9], [4, 9]), ([0, 10], [0, 10]), ([11, 9, 0, 1, 2, 3, 4, 5, 6, 7, 8, 9, 10, 11], [11])]) [0, 0, 2, 6, 14, 0, 32, 96, 224, 480, 1022, 2047, 4095] (by kernel_rfl) (by kernel_rfl) (by kernel_rfl)
set_option maxRecDepth 100000 in
theorem spKept (w : World) (bs bt bm bl bd : Nat) (m : List (Int × List UInt8)) (F : Nat → Prop) (size : Int) (d : Dk) (first n : Int) (hs : SpIs w bs bt first) (h : TxOk w bt bm bl bd m F size d) (h0 : 0 ≤ first) (h1 : first ≤ 8192) :
    Calls Try.prog 49 #[.pointer (some ⟨bs, 0, none⟩), .int .i64 n] w fun e w' => e = .returned (.bool (decide (n < first + nBm size d))) ∧ Below w.heap.size w w' := by
  have c0 := blk_cell hs.blk 0
  have c1 := blk_cell hs.blk 1
  have HB := Lib.hid (spBlocks w.drew bt bm bl bd m F size d (h.below (below_drew (Below.refl _ _))))
  have hn0 : 0 ≤ nBm size d ∧ nBm size d ≤ 2 := by
    have := h.len
    have := h.s0
    have := h.s1
    unfold nBm nBl
    omega
  have HS := Lib.hid hs
  clear h hs
  generalize nBm size d = nb at *
  obtain ⟨hn1, hn2⟩ := hn0
  go_enter Try.func49, Try.ntmps49
  go_wp2_with fail
  refine way_start (fun w' => w'.cell? ⟨bs, 1, none⟩ = some (.int .i64 first) ∧ w'.cell? ⟨bs, 0, none⟩ = some (.pointer (some ⟨bt, 0, none⟩))) plKept (by kernel_rfl) rfl (⟨c1, c0⟩) (fun hHeld => ?_)
  repeat (first
    | (refine way_pure (v := undef) (a' := ?_) plKept rfl rfl rfl (fun _ _ _ h => h) (Or.inr ⟨by rfl, rfl⟩) ?_ ?_; rotate_left; (· (simp only [aw]; rfl)))
    | (refine way_pure (v := ?_) (a' := ?_) plKept rfl rfl rfl (fun _ _ _ h => h) (Or.inl ⟨by rfl, ?_⟩) ?_ ?_; rotate_left; (· (intro w'; go_simp; with_reducible rfl)); rotate_left; (· (simp only [aw]; rfl)))
    | (refine way_take (v := ?_) (a' := ?_) plKept rfl rfl rfl (fun _ _ _ h => h) (Or.inl ⟨by rfl, ?_⟩) hHeld ?_ ?_; rotate_left; (· (rintro w' ⟨s0, s1⟩; go_simp; with_reducible rfl)); rotate_left; (· (simp only [aw]; rfl))))
  refine way_one plKept rfl rfl rfl (fun K hK => ?_)
  refine goes_ Try.func71 (by kernel_rfl) rfl #[.pointer (some ⟨bt, 0, none⟩)] (by rfl) rfl rfl (by simp only [List.map_toArray, List.map_cons, List.map_nil]; rfl) ?_
  with_reducible refine (HB.out).mono ?_
  rintro e w1 ⟨rfl, hb⟩
  refine ⟨_, rfl, ?_⟩
  have HB1 := Lib.hid hb; clear hb
  refine hK.out _ _ ⟨pw_cell_below HB1.out hHeld.1, pw_cell_below HB1.out hHeld.2⟩ (fun hHeld => ?_)
  clear hK K
  refine way_norm (a' := ?_) ?_ ?_
  rotate_left
  · simp only [aw]
    rfl
  repeat (first
    | (refine way_pure (v := undef) (a' := ?_) plKept rfl rfl rfl (fun _ _ _ h => h) (Or.inr ⟨by rfl, rfl⟩) ?_ ?_; rotate_left; (· (simp only [aw]; rfl)))
    | (refine way_pure (v := ?_) (a' := ?_) plKept rfl rfl rfl (fun _ _ _ h => h) (Or.inl ⟨by rfl, ?_⟩) ?_ ?_; rotate_left; (· (intro w'; go_simp; with_reducible rfl)); rotate_left; (· (simp only [aw]; rfl)))
    | (refine way_take (v := ?_) (a' := ?_) plKept rfl rfl rfl (fun _ _ _ h => h) (Or.inl ⟨by rfl, ?_⟩) hHeld ?_ ?_; rotate_left; (· (rintro w' ⟨s0, s1⟩; go_simp; with_reducible rfl)); rotate_left; (· (simp only [aw]; rfl))))
  refine way_done plKept rfl (by decide) ?_
  go_wp2
  go_ret
  refine ⟨?_, (below_drew (Below.refl _ _)).trans HB1.out⟩
  show Ending.returned (.bool (decide (n < wrap64 (first + nb)))) = _
  rw [show wrap64 (first + nb) = first + nb by unfold wrap64; omega]
end Go.Proofs.Ythijhmidmhgfaaa

set_option linter.unusedVariables false
set_option linter.unusedSimpArgs false
namespace Go.Proofs.Ythijhmidmhgfaaa
open Go.RowKit Go.Proofs.YthijhmidmhgfaaaW.PrintWords Go.Proofs.YthijhmidmhgfaaaW.PrintLast
def u8s (l : List UInt8) : List Int := l.map fun c => (c.toNat : Int)
theorem u8s_len (l : List UInt8) : (u8s l).length = l.length := List.length_map ..
theorem u8s_append (a b : List UInt8) : u8s (a ++ b) = u8s a ++ u8s b := List.map_append ..
theorem u8s_bs (l : List UInt8) : bytesOf (bs l) = u8s l := by unfold bytesOf u8s; rw [bs_data]
theorem rd_u8s (l : List UInt8) (k : Nat) (h : k < l.length) : rd (u8s l) (k : Int) = ((l[k]'h).toNat : Int) := by
  unfold rd u8s
  rw [Int.toNat_natCast, List.getD_eq_getElem?_getD, List.getElem?_map, List.getElem?_eq_getElem h]
  rfl
/-- a row of bytes of one's own, from block base on -/
def BRow (w : World) (base : Nat) (v : Value) (l : List UInt8) : Prop := w.ownsRow base 5 1 v l.length (nums .u8 (u8s l))
theorem BRow.below {w w1 : World} {base : Nat} {v : Value} {l : List UInt8} (h : BRow w base v l) (hb : Below w.heap.size w w1) : BRow w1 base v l := pw_own_below h hb
theorem BRow.touch {w w1 : World} {base : Nat} {v : Value} {l : List UInt8} {F : Nat → Prop} (h : BRow w base v l) (ht : Touch F w w1) (hd : ∀ k, v.ownBlock = some k → ¬ F k) : BRow w1 base v l := own_move h (fun k hk => ht.block k (own_lt h k hk) (hd k hk))
theorem BRow.reads {w : World} {base : Nat} {v : Value} {l : List UInt8} (h : BRow w base v l) : ∃ A c, v = .slice A l.length c ∧ ReadsInt w .u8 A l.length (u8s l) := own_reads h
theorem BRow.cap {w : World} {base n c : Nat} {A : Option Addr} {l : List UInt8} (h : BRow w base (.slice A n c) l) : n = l.length ∧ n ≤ c := by
  rcases h.2 with ⟨e, h1⟩ | ⟨g, cap, cur, e, _, _, h1, _⟩
  · injection e with e1 e2 e3
    omega
  · injection e with e1 e2 e3
    omega
theorem u8_info : (Try.prog.info? 5).map (fun i => (i.zero, i.size, i.bytes)) = some (some (.int .u8 0), 1, 1) := by kernel_rfl
theorem emptyRow (w : World) (base : Nat) (e : TypeId) (hb : base ≤ w.heap.size) : (w.alloc (.cells #[] e)).ownsRow base e 1 (.slice (some ⟨w.heap.size, 0, none⟩) 0 0) 0 (nums .u8 []) := own_lit w base e .u8 [] hb (by decide)
set_option maxRecDepth 100000 in
theorem clone_u8 (w : World) (A : Option Addr) (c : Nat) (l : List UInt8) (h : ReadsInt w .u8 A l.length (u8s l)) (hb : l.length ≤ 140737488355328) : Calls Try.prog 45 #[.slice A l.length c] w fun e w' => ∃ v, e = .returned v ∧ BRow w' w.heap.size v l ∧ Below w.heap.size w w' := by
  have hq := fun W => Lib.run_eql_slice_nil (P := Try.prog) W 40 5 A l.length c 0 0 Try.underlying40
  cases A with
  | none =>
    have h0 : l = [] := by
      cases l with
      | nil => rfl
      | cons a r =>
        obtain ⟨ad, e, _⟩ := h.2.2 (by simp)
        cases e
    subst h0
    clear h
    simp only [List.length_nil, Option.isNone_none] at hq
    go_enter Try.func45, Try.ntmps45
    go_wp2
    go_ret
    exact ⟨_, rfl, own_nil _ _ _ _, Below.refl _ _⟩
  | some ad =>
    have HC := Lib.hid (ReadsInt.below h (below_alloc (Below.refl w.heap.size w) (.cells #[] 5)))
    clear h
    go_enter Try.func45, Try.ntmps45
    go_wp2_with (at_builtin; refine print_append_row (w0 := w) w.heap.size rfl _ _ 40 5 .u8 1 rfl Try.underlying40 u8_info (by decide) (.slice (some ⟨w.heap.size, 0, none⟩) 0 0) [] (u8s l) (some ad) l.length c rfl rfl (emptyRow w _ _ (Nat.le_refl _)) HC.out (below_alloc (Below.refl _ _) _) (by simp [go_sem]) (by simp; omega) ?_; intro v1 w1 hR hB hg hat; rw [List.nil_append, u8s_len] at hR; have HR := Lib.hid hR; have HB := Lib.hid hB; clear hR hg hat hB)
    go_ret
    exact ⟨_, rfl, HR.out, HB.out⟩
theorem plEqu : Plan (opsOf Try.f72 6) [] [0, 1, 2, 4, 5, 6, 3, 7, 8] [0, 0, 0, 1, 0, 0, 0, 1, 0] := plan_mk (true, [([], []), ([], []), ([0, 1], [0, 1]), ([2], [2]), ([], []), ([], []), ([4, 5], [4, 5]), ([6], [6]), ([3, 7], [3, 7])]) [0, 0, 3, 7, 0, 0, 48, 112, 255] (by kernel_rfl) (by kernel_rfl) (by kernel_rfl)
set_option maxRecDepth 100000 in
theorem equal_u8 (w : World) (A B : Option Addr) (c c2 : Nat) (l k : List UInt8) (h : ReadsInt w .u8 A l.length (u8s l)) (h2 : ReadsInt w .u8 B k.length (u8s k)) : Calls Try.prog 72 #[.slice A l.length c, .slice B k.length c2] w fun e w' => e = .returned (.bool (l == k)) ∧ Below w.heap.size w w' := by
  have h3 := h.2.1
  have h4 := h2.2.1
  by_cases q : l.length = k.length
  · have HC := Lib.hid h
    have HD := Lib.hid h2
    clear h h2
    have b0 : ((l.length : Int) != (k.length : Int)) = false := by rw [q]; simp
    go_enter Try.func72, Try.ntmps72
    go_wp2
    go_loopw [13] (fun i wr => ∃ j : Nat, j ≤ l.length ∧ i = .int .i64 j ∧ Hid (l.take j = k.take j) ∧ Hid (Below w.heap.size w wr)) (fun i _ => l.length - (intOf i).toNat)
    case atStart => exact ⟨0, Nat.zero_le _, rfl, Lib.hid rfl, Lib.hid (Below.refl _ _)⟩
    case round =>
      obtain ⟨j, hj, rfl, HT, HB⟩ := hrel
      by_cases hlt : j < l.length
      · obtain ⟨ad, rfl, p0⟩ := (ReadsInt.below HC.out HB.out).at_ (j : Int) (by omega) (by omega)
        obtain ⟨ad2, rfl, p1⟩ := (ReadsInt.below HD.out HB.out).at_ (j : Int) (by omega) (by omega)
        have hjk : j < k.length := by omega
        rw [rd_u8s l j hlt, Int.toNat_natCast] at p0
        rw [rd_u8s k j hjk, Int.toNat_natCast] at p1
        have HN := Lib.hid (List.take_succ_eq_append_getElem hlt)
        have HM := Lib.hid (List.take_succ_eq_append_getElem hjk)
        have HE := Lib.hid (fun (hne : l[j] ≠ k[j]) (e : l = k) => hne (by subst e; rfl))
        generalize l[j] = x at *
        generalize k[j] = y at *
        go_wp2_with fail
        refine way_start (fun w' => w'.cell? (ad.add j) = some (.int .u8 (x.toNat : Int)) ∧ w'.cell? (ad2.add j) = some (.int .u8 (y.toNat : Int))) plEqu (by kernel_rfl) rfl (⟨p0, p1⟩) (fun hHeld => ?_)
        repeat (first
          | (refine way_pure (v := undef) (a' := ?_) plEqu rfl rfl rfl (fun _ _ _ h => h) (Or.inr ⟨by rfl, rfl⟩) ?_ ?_; rotate_left; (· (simp only [aw]; rfl)))
          | (refine way_pure (v := ?_) (a' := ?_) plEqu rfl rfl rfl (fun _ _ _ h => h) (Or.inl ⟨by rfl, ?_⟩) ?_ ?_; rotate_left; (· (intro w'; go_simp; with_reducible rfl)); rotate_left; (· (simp only [aw]; rfl)))
          | (refine way_take (v := ?_) (a' := ?_) plEqu rfl rfl rfl (fun _ _ _ h => h) (Or.inl ⟨by rfl, ?_⟩) hHeld ?_ ?_; rotate_left; (· (rintro w' ⟨s0, s1⟩; go_simp; with_reducible rfl)); rotate_left; (· (simp only [aw]; rfl))))
        refine way_done plEqu rfl (by decide) ?_
        by_cases e : x = y
        · subst e
          have b1 : ((x.toNat : Int) != (x.toNat : Int)) = false := by simp
          go_wp2
          exact ⟨⟨j + 1, by omega, by go_num, Lib.hid (by rw [HN.out, HM.out, HT.out]), Lib.hid (below_drew HB.out)⟩, by simp [intOf]; omega⟩
        · have b1 : ((x.toNat : Int) != (y.toNat : Int)) = true := by
            rw [bne_iff_ne]
            intro e2
            exact e (UInt8.toNat_inj.1 (by omega))
          have HF : Hid ((l == k) = false) := Lib.hid (beq_eq_false_iff_ne.2 (HE.out e))
          go_wp2
          go_ret
          exact ⟨by rw [HF.out]; rfl, below_drew HB.out⟩
      · obtain rfl : j = l.length := by omega
        have HF : Hid ((l == k) = true) := Lib.hid (by
          have := HT.out
          rw [List.take_length, List.take_of_length_le (by omega)] at this
          rw [this]
          simp)
        go_wp2
        go_ret
        exact ⟨by rw [HF.out]; rfl, HB.out⟩
  · have HF : Hid ((l == k) = false) := Lib.hid (beq_eq_false_iff_ne.2 (fun e => q (by rw [e])))
    have b0 : ((l.length : Int) != (k.length : Int)) = true := by rw [bne_iff_ne]; omega
    clear h h2
    go_enter Try.func72, Try.ntmps72
    go_wp2
    go_ret
    exact ⟨by rw [HF.out]; rfl, Below.refl _ _⟩
end Go.Proofs.Ythijhmidmhgfaaa

set_option linter.unusedVariables false
set_option linter.unusedSimpArgs false
namespace Go.Proofs.Ythijhmidmhgfaaa
open Go.RowKit Go.Proofs.YthijhmidmhgfaaaW.PrintWords Go.Proofs.YthijhmidmhgfaaaW.PrintLast Go.Maps Go.ChangeMaps
/-- bit n of a bitmap -/
def bitM (M : List UInt8) (n : Nat) : Bool := (M.getD (n / 8) 0).toNat.testBit (n % 8)
theorem and1_u8 (x : Int) (h0 : 0 ≤ x) (h1 : x < 256) : bits .and .u8 x 1 = x % 2 := bits_mask .u8 8 (by decide) wraps_u8 1 (by decide) x h0 h1
theorem bit_read (x : UInt8) (r : Nat) : (bits .and .u8 ((x.toNat : Int) / 2 ^ r) 1 == 1) = x.toNat.testBit r := by
  have hx := x.toNat_lt
  have e : (x.toNat : Int) / 2 ^ r = ((x.toNat / 2 ^ r : Nat) : Int) := by simp
  have hle : x.toNat / 2 ^ r ≤ x.toNat := Nat.div_le_self _ _
  rw [e, Nat.testBit_eq_decide_div_mod_eq]
  generalize x.toNat / 2 ^ r = y at *
  rw [and1_u8 _ (by omega) (by omega)]
  rw [Bool.eq_iff_iff, beq_iff_eq, decide_eq_true_iff]
  omega
set_option maxRecDepth 100000 in
theorem spUsed (w : World) (bs bt bm bl bd : Nat) (m : List (Int × List UInt8)) (F : Nat → Prop) (size : Int) (d : Dk) (first : Int) (n : Nat) (A : Option Addr) (c : Nat) (M : List UInt8) (hs : SpIs w bs bt first) (h : TxOk w bt bm bl bd m F size d) (h0 : 0 ≤ first) (h1 : first ≤ 8192) (hM : ReadsInt w .u8 A M.length (u8s M)) (hn : n < M.length * 8) (hm : M.length ≤ 8192) :
    Calls Try.prog 48 #[.pointer (some ⟨bs, 0, none⟩), .slice A M.length c, .int .i64 (n : Int)] w fun e w' => e = .returned (.bool (decide ((n : Int) < first + nBm size d) || bitM M n)) ∧ Below w.heap.size w w' := by
  have HK := Lib.hid (spKept w bs bt bm bl bd m F size d first n hs h h0 h1)
  have HM := Lib.hid hM
  clear h hs hM
  have z1 : (n : Int) < 65536 := by omega
  cases hk : decide ((n : Int) < first + nBm size d) with
  | true =>
    rw [hk] at HK
    clear hk
    go_enter Try.func48, Try.ntmps48
    go_wp2_with (go_at_call 49; (with_reducible refine (HK.out).mono ?_); rintro e w1 ⟨rfl, hb⟩)
    go_ret
    exact ⟨rfl, hb⟩
  | false =>
    rw [hk] at HK
    obtain ⟨q, hq⟩ : ∃ q, n / 8 = q := ⟨_, rfl⟩
    obtain ⟨r, hr⟩ : ∃ r, n % 8 = r := ⟨_, rfl⟩
    have e1 : (n : Int) / 8 = (q : Int) := by omega
    have e2 : (n : Int) % 8 = (r : Int) := by omega
    have hqM : q < M.length := by omega
    have hr8 : (r : Int) < 8 := by omega
    have HB : Hid (bitM M n = (M[q]).toNat.testBit r) := Lib.hid (by unfold bitM; rw [hq, hr, List.getD_eq_getElem?_getD, List.getElem?_eq_getElem hqM]; rfl)
    clear hk
    go_enter Try.func48, Try.ntmps48
    go_wp2_with fail
    (with_reducible refine HK.out.mono ?_)
    rintro e w1 ⟨rfl, hb⟩
    have hM1 := ReadsInt.below HM.out hb
    obtain ⟨ad, rfl, p0⟩ := hM1.at_ (q : Int) (by omega) (by omega)
    rw [rd_u8s M q hqM, Int.toNat_natCast] at p0
    generalize M[q] = x at *
    have hx0 : 0 ≤ (x.toNat : Int) := by omega
    have hx1 : (x.toNat : Int) < 256 := by have := x.toNat_lt; omega
    clear hq hr hM1
    go_wp2
    go_ret
    refine ⟨?_, hb⟩
    rw [HB.out, ← bit_read]
    rfl
end Go.Proofs.Ythijhmidmhgfaaa

set_option linter.unusedVariables false
set_option linter.unusedSimpArgs false
namespace Go.Proofs.Ythijhmidmhgfaaa
open Go.RowKit Go.Proofs.YthijhmidmhgfaaaW.PrintWords Go.Proofs.YthijhmidmhgfaaaW.PrintLast Go.Maps Go.ChangeMaps
theorem nBm_range {w : World} {bt bm bl bd : Nat} {m : List (Int × List UInt8)} {F : Nat → Prop} {size : Int} {d : Dk} (h : TxOk w bt bm bl bd m F size d) : 1 ≤ nBm size d ∧ nBm size d ≤ 2 ∧ nBm size d ≤ nBl size d ∧ nBl size d ≤ 8192 ∧ nBl size d ≤ nBm size d * 4096 ∧ 1 ≤ nBl size d := by
  have := h.len
  have := h.s0
  have := h.s1
  unfold nBm nBl
  omega
/-- a block as the transaction sees it -/
def seeT (size : Int) (d : Dk) (m : List (Int × List UInt8)) (n : Int) : List UInt8 := match getW m n with
  | some t => t
  | none => rdOf [] d.seen (size + n)
theorem TxOk.see {w : World} {bt bm bl bd : Nat} {m : List (Int × List UInt8)} {F : Nat → Prop} {size : Int} {d : Dk} (h : TxOk w bt bm bl bd m F size d) (n : Int) (h0 : 0 ≤ n) (h1 : n < nBl size d) : txReadV size d m n = (seeT size d m n, 0) ∧ (seeT size d m n).length = 512 := by
  unfold txReadV seeT
  cases q : getW m n with
  | some t => exact ⟨rfl, (h.keys _ (getW_mem q)).2.2⟩
  | none =>
    have hs := h.s0
    unfold nBl at h1
    unfold logReadV
    rw [if_neg (by omega)]
    refine ⟨rfl, h.secs _ ?_⟩
    obtain ⟨k, hk⟩ := Int.eq_ofNat_of_zero_le (show 0 ≤ size + n by omega)
    dsimp only
    rw [hk, rdOf_get [] d.seen k (by omega)]
    exact List.getElem_mem _
def bmV (size : Int) (d : Dk) (m : List (Int × List UInt8)) (first : Int) (k : Nat) : List UInt8 := (List.range k).flatMap fun i : Nat => seeT size d m (first + (i : Int))
theorem bmV_succ (size : Int) (d : Dk) (m : List (Int × List UInt8)) (first : Int) (k : Nat) : bmV size d m first (k + 1) = bmV size d m first k ++ seeT size d m (first + (k : Int)) := by
  unfold bmV
  rw [List.range_succ, List.flatMap_append]
  simp
theorem bmV_len {w : World} {bt bm bl bd : Nat} {m : List (Int × List UInt8)} {F : Nat → Prop} {size : Int} {d : Dk} (h : TxOk w bt bm bl bd m F size d) (first : Int) (h0 : 0 ≤ first) : ∀ k : Nat, first + (k : Int) ≤ nBl size d → (bmV size d m first k).length = 512 * k
  | 0, _ => rfl
  | k + 1, hk => by
    rw [bmV_succ, List.length_append, bmV_len h first h0 k (by omega), (h.see (first + (k : Int)) (by omega) (by omega)).2]
    omega
theorem plBit : Plan (opsOf Try.f41 5) [] [0, 1, 2, 4, 5, 6, 8, 3, 7, 9, 10, 11, 12, 13, 14, 15] [0, 0, 0, 1, 0, 0, 0, 1, 0, 0, 2, 0, 0, 0, 0, 0] := plan_mk (true, [([], []), ([0], [0]), ([1], [1]), ([2], [2]), ([], []), ([4], [4]), ([5], [5]), ([6], [6]), ([], []), ([7, 8], [7, 8]), ([3, 9], [3, 9]), ([10], [10]), ([11], [11]), ([11], [11]), ([12, 10, 0, 1, 2, 3, 4, 5, 6, 7, 8, 9, 10, 11, 12], [12]), ([13, 14, 0, 1, 2, 3, 4, 5, 6, 7, 8, 9, 10, 11, 12, 13, 14], [13])]) [0, 1, 3, 7, 0, 16, 48, 112, 0, 496, 1023, 2047, 4095, 4095, 8191, 32767] (by kernel_rfl) (by kernel_rfl) (by kernel_rfl)
set_option maxRecDepth 100000 in
theorem spBitmap (w : World) (bs' bt bm bl bd : Nat) (m : List (Int × List UInt8)) (F : Nat → Prop) (size : Int) (d : Dk) (first : Int) (hs : SpIs w bs' bt first) (h : TxOk w bt bm bl bd m F size d) (h0 : 0 ≤ first) (h1 : first + nBm size d ≤ nBl size d) :
    Calls Try.prog 41 #[.pointer (some ⟨bs', 0, none⟩)] w fun e w' => ∃ v, e = .returned (.tuple #[v, .int .i64 0]) ∧ BRow w' w.heap.size v (bmV size d m first (nBm size d).toNat) ∧ Below w.heap.size w w' := by
  obtain ⟨n1, n2, n3, n4, n5, n6⟩ := nBm_range h
  have HB := Lib.hid (spBlocks w bt bm bl bd m F size d h)
  have HX := Lib.hid h
  have HSp := Lib.hid hs
  have HLn := Lib.hid (bmV_len h first h0)
  obtain ⟨nb, hnb⟩ := Int.eq_ofNat_of_zero_le (show 0 ≤ nBm size d by omega)
  rw [hnb] at HB h1 n1 n2
  have HQ := Lib.hid hnb
  have c0 := blk_cell hs.blk 0
  clear h hs hnb n3 n5 n6
  go_enter Try.func41, Try.ntmps41
  go_wp2_with (go_at_call 71; (with_reducible refine (HB.out).mono ?_); rintro e w1 ⟨rfl, hb⟩; have HB1 := Lib.hid hb; clear hb)
  go_loopw [4, 13] (fun v i wr => ∃ k : Nat, k ≤ nb ∧ i = .int .i64 k ∧ Hid (BRow wr w.heap.size v (bmV size d m first k)) ∧ Hid (Below w.heap.size w wr)) (fun _ i _ => nb - (intOf i).toNat)
  case atStart => exact ⟨0, Nat.zero_le _, rfl, Lib.hid (own_nil _ _ _ _), HB1⟩
  case round =>
    clear HB1
    obtain ⟨k, hk, rfl, HR, HBB⟩ := hrel
    by_cases hlt : k < nb
    · have g1 : first + (k : Int) < nBl size d := by omega
      have g2 : 0 ≤ first + (k : Int) := by omega
      have g3 : first + (k : Int) ≤ 8192 := by omega
      have hx := HX.out.below (below_drew HBB.out)
      obtain ⟨s1, s2⟩ := hx.see (first + (k : Int)) g2 g1
      have HRd := Lib.hid (hx.read (first + (k : Int)) (by omega) (by omega))
      rw [s1] at HRd
      have hsp := HSp.out.below (below_drew HBB.out)
      have x0 := blk_cell hsp.blk 0
      have x1 := blk_cell hsp.blk 1
      have HS2 := Lib.hid s2
      have HN := Lib.hid (bmV_succ size d m first k)
      have hln := HLn.out k (by omega)
      clear hx hsp s1 s2
      go_wp2_with fail
      refine way_start (fun w' => w'.cell? ⟨bs', 0, none⟩ = some (.pointer (some ⟨bt, 0, none⟩)) ∧ w'.cell? ⟨bs', 1, none⟩ = some (.int .i64 first)) plBit (by kernel_rfl) rfl (⟨x0, x1⟩) (fun hHeld => ?_)
      repeat (first
        | (refine way_pure (v := undef) (a' := ?_) plBit rfl rfl rfl (fun _ _ _ h => h) (Or.inr ⟨by rfl, rfl⟩) ?_ ?_; rotate_left; (· (simp only [aw]; rfl)))
        | (refine way_pure (v := ?_) (a' := ?_) plBit rfl rfl rfl (fun _ _ _ h => h) (Or.inl ⟨by rfl, ?_⟩) ?_ ?_; rotate_left; (· (intro w'; go_simp; with_reducible rfl)); rotate_left; (· (simp only [aw]; rfl)))
        | (refine way_take (v := ?_) (a' := ?_) plBit rfl rfl rfl (fun _ _ _ h => h) (Or.inl ⟨by rfl, ?_⟩) hHeld ?_ ?_; rotate_left; (· (rintro w' ⟨s0, s1⟩; go_simp; with_reducible rfl)); rotate_left; (· (simp only [aw]; rfl))))
      rw [show wrap64 (first + (k : Int)) = first + (k : Int) by unfold wrap64; omega]
      refine way_one plBit rfl rfl rfl (fun K hK => ?_)
      refine goes_ Try.func18 (by kernel_rfl) rfl #[.pointer (some ⟨bt, 0, none⟩), .int .i64 (first + (k : Int))] (by rfl) rfl rfl (by simp only [List.map_toArray, List.map_cons, List.map_nil]; rfl) ?_
      with_reducible refine (HRd.out).mono ?_
      rintro e w2 ⟨rfl, hb2⟩
      refine ⟨_, rfl, ?_⟩
      have HB2 := Lib.hid hb2; clear hb2
      refine hK.out _ _ ⟨pw_cell_below HB2.out hHeld.1, pw_cell_below HB2.out hHeld.2⟩ (fun hHeld => ?_)
      clear hK K
      refine way_norm (a' := ?_) ?_ ?_
      rotate_left
      · simp only [aw]
        rfl
      repeat (first
        | (refine way_pure (v := undef) (a' := ?_) plBit rfl rfl rfl (fun _ _ _ h => h) (Or.inr ⟨by rfl, rfl⟩) ?_ ?_; rotate_left; (· (simp only [aw]; rfl)))
        | (refine way_pure (v := ?_) (a' := ?_) plBit rfl rfl rfl (fun _ _ _ h => h) (Or.inl ⟨by rfl, ?_⟩) ?_ ?_; rotate_left; (· (intro w'; go_simp; with_reducible rfl)); rotate_left; (· (simp only [aw]; rfl)))
        | (refine way_take (v := ?_) (a' := ?_) plBit rfl rfl rfl (fun _ _ _ h => h) (Or.inl ⟨by rfl, ?_⟩) hHeld ?_ ?_; rotate_left; (· (rintro w' ⟨s0, s1⟩; go_simp; with_reducible rfl)); rotate_left; (· (simp only [aw]; rfl))))
      refine way_done plBit rfl (by decide) ?_
      have HBW : Hid (Below w.heap.size w w2) := Lib.hid (below_then (below_drew HBB.out) HBB.out.size HB2.out)
      have hzl : (bs (seeT size d m (first + (k : Int)))).size = 512 := by rw [bs_size]; exact HS2.out
      have HR2 := Lib.hid (HR.out.below ((below_drew (Below.refl _ _)).trans HB2.out))
      have HBs := Lib.hid (u8s_bs (seeT size d m (first + (k : Int))))
      generalize hT : seeT size d m (first + (k : Int)) = t at *
      have HT := Lib.hid hT
      clear hT
      go_wp2_with (at_builtin; refine print_append_str (w0 := w) w.heap.size rfl (.tmp 33) (.tmp 34) 40 9 5 rfl Try.underlying40 Try.underlying9 u8_info _ (u8s (bmV size d m first k)) (bs t) rfl rfl (by rw [u8s_len]; exact HR2.out) HBW.out HBW.out.size (by rw [u8s_len]; omega) ?_; intro v3 w3 hR3 hB3 hg3; rw [HBs.out, ← u8s_append, u8s_len] at hR3; have HR3 := Lib.hid hR3; have HB3 := Lib.hid hB3; clear hR3 hB3 hg3)
      refine ⟨⟨k + 1, by omega, by go_num, Lib.hid ?_, HB3⟩, by simp [intOf]; omega⟩
      rw [HN.out]
      exact HR3.out
    · obtain rfl : k = nb := by omega
      go_wp2
      go_ret2
      refine ⟨_, rfl, ?_, HBB.out⟩
      rw [HQ.out]
      exact HR.out
end Go.Proofs.Ythijhmidmhgfaaa

set_option linter.unusedVariables false
set_option linter.unusedSimpArgs false
namespace Go.Proofs.Ythijhmidmhgfaaa
open Go.RowKit Go.Proofs.YthijhmidmhgfaaaW.PrintWords Go.Proofs.YthijhmidmhgfaaaW.PrintLast Go.Maps Go.ChangeMaps
/-- block i of a bitmap -/
def part (M : List UInt8) (i : Nat) : List UInt8 := (M.drop (512 * i)).take 512
theorem part_len (M : List UInt8) (i n : Nat) (h : M.length = 512 * n) (hi : i < n) : (part M i).length = 512 := by
  unfold part
  rw [List.length_take, List.length_drop, h]
  omega
def layM (m : List (Int × List UInt8)) (first : Int) (was is_ : List UInt8) : Nat → List (Int × List UInt8)
  | 0 => m
  | k + 1 => if part was k == part is_ k then layM m first was is_ k else putW (first + (k : Int)) (part is_ k) (layM m first was is_ k)
theorem u8s_part (M : List UInt8) (i : Nat) : ((u8s M).take (512 * (i + 1))).drop (512 * i) = u8s (part M i) := by
  unfold u8s part
  rw [← List.map_take, ← List.map_drop, List.drop_take]
  congr 2
  omega
theorem bytes_of_reads {w : World} {g o c : Nat} {l : List UInt8} (h : ReadsInt w .u8 (some ⟨g, o, none⟩) l.length (u8s l)) : (convert 40 9 (.slice (some ⟨g, o, none⟩) l.length c)).run Try.prog w = .ok (.string (bs l)) w := by
  have := run_convert_bytes_arg (P := Try.prog) w 40 5 Try.underlying40 Try.underlying5 g o l.length c (u8s l) (u8s_len l) (fun i hi => by
    obtain ⟨ad, e, hc⟩ := h.2.2 (by omega)
    cases e
    have := hc i hi
    rwa [add_at] at this) 9 Try.underlying9
  rw [this, show u8s l = l.map (fun x => (x.toNat : Int)) from rfl, nums_bs]
theorem cut_part (g n c k : Nat) (M : List UInt8) (hM : M.length = 512 * n) (hk : k < n) (hc : M.length ≤ c) (W : World) :
    (Instr.slice 40 (.slice (some ⟨g, 0, none⟩) M.length c) (some (.int .i64 ((k : Int) * 512))) (some (.int .i64 (((k : Int) + 1) * 512))) none).run Try.prog W = .ok (.slice (some ⟨g, 512 * k, none⟩) 512 (c - 512 * k)) W := by
  obtain ⟨i0, hi, hz⟩ := Option.map_eq_some_iff.1 u8_info
  simp only [Prod.mk.injEq] at hz
  have hel : (Try.prog).elem 40 = 5 := by simp [Program.elem, Try.underlying40]
  have hu : (Try.prog).underlying 40 = some (.slice ((Try.prog).elem 40)) := by rw [hel]; exact Try.underlying40
  rw [run_slice_lh W 40 (some ⟨g, 0, none⟩) M.length c hu .i64 .i64 ((k : Int) * 512) (((k : Int) + 1) * 512) (by omega) (by omega) (by omega), hel]
  have e1 : ((k : Int) * 512).toNat = 512 * k := by omega
  have e2 : (((k : Int) + 1) * 512).toNat = 512 * k + 512 := by omega
  have e3 : ¬ c = 512 * k := by omega
  simp [sizeOf, typeInfo, hi, hz.2.1, sliced, Result.andThen, e1, e2, e3]
  exact add_plain g (512 * k)
theorem reads_part {w : World} {g c k n : Nat} {M : List UInt8} (h : ReadsInt w .u8 (some ⟨g, 0, none⟩) M.length (u8s M)) (hM : M.length = 512 * n) (hk : k < n) (hc : M.length ≤ c) : ReadsInt w .u8 (some ⟨g, 512 * k, none⟩) (part M k).length (u8s (part M k)) := by
  have h2 := (h.take_ (512 * (k + 1)) (by omega)).drop_ (c := c) (512 * k) (by omega) (by omega)
  rw [if_neg (by omega), u8s_part] at h2
  rw [part_len M k n hM hk]
  rw [show 512 * (k + 1) - 512 * k = 512 by omega] at h2
  rw [Option.map_some, add_plain] at h2
  exact h2
theorem ReadsInt_touch {w w1 : World} {k : IntKind} {A : Option Addr} {n : Nat} {xs : List Int} {F : Nat → Prop} (h : ReadsInt w k A n xs) (ht : Touch F w w1) (hA : ∀ ad, A = some ad → 0 < n → ¬ F ad.block) : ReadsInt w1 k A n xs := by
  refine ⟨h.1, h.2.1, fun hn => ?_⟩
  obtain ⟨ad, e, hc⟩ := h.2.2 hn
  refine ⟨ad, e, fun j hj => ?_⟩
  have h2 := hc j hj
  have hb := World.block_lt_of_cell? w _ h2
  rw [add_block] at hb
  rw [← h2]
  exact World.cell?_of_block (w := w) (by rw [add_block]; exact ht.block _ hb (hA ad e hn))
theorem insW_mem (x : Int × List UInt8) : ∀ m : List (Int × List UInt8), ∀ y, y ∈ insW x m ↔ y = x ∨ y ∈ m
  | [], y => by simp [insW]
  | z :: r, y => by
    rw [insW]
    split
    · simp
    · rw [List.mem_cons, insW_mem x r y, List.mem_cons]
      constructor
      · rintro (h | h | h)
        · exact .inr (.inl h)
        · exact .inl h
        · exact .inr (.inr h)
      · rintro (h | h | h)
        · exact .inr (.inl h)
        · exact .inl h
        · exact .inr (.inr h)
theorem putW_mem {k : Int} {t : List UInt8} {m : List (Int × List UInt8)} {y : Int × List UInt8} (h : y ∈ putW k t m) : y = (k, t) ∨ (y ∈ m ∧ y.1 ≠ k) := by
  unfold putW at h
  rw [insW_mem] at h
  rcases h with h | h
  · exact .inl h
  · rw [List.mem_filter] at h
    exact .inr ⟨h.1, by simpa using h.2⟩
theorem insW_sorted (x : Int × List UInt8) : ∀ m : List (Int × List UInt8), (m.Pairwise fun a b => a.1 < b.1) → (∀ y ∈ m, y.1 ≠ x.1) → (insW x m).Pairwise fun a b => a.1 < b.1
  | [], _, _ => by simp [insW]
  | z :: r, h, hn => by
    rw [List.pairwise_cons] at h
    rw [insW]
    split
    · rename_i hlt
      refine List.pairwise_cons.2 ⟨fun y hy => ?_, List.pairwise_cons.2 h⟩
      rcases List.mem_cons.1 hy with rfl | hy
      · exact hlt
      · have := h.1 y hy
        omega
    · rename_i hlt
      refine List.pairwise_cons.2 ⟨fun y hy => ?_, insW_sorted x r h.2 (fun y hy => hn y (List.mem_cons_of_mem _ hy))⟩
      rw [insW_mem] at hy
      rcases hy with rfl | hy
      · have := hn z List.mem_cons_self
        omega
      · exact h.1 y hy
theorem putW_sorted (k : Int) (t : List UInt8) (m : List (Int × List UInt8)) (h : m.Pairwise fun a b => a.1 < b.1) : (putW k t m).Pairwise fun a b => a.1 < b.1 :=
  insW_sorted (k, t) _ (List.Pairwise.filter _ h) (fun y hy => by
    rw [List.mem_filter] at hy
    simpa using hy.2)
/-- a live transaction behind a write -/
theorem TxOk.put {w w1 : World} {bt bm bl bd : Nat} {m : List (Int × List UInt8)} {F : Nat → Prop} {size : Int} {d : Dk} (h : TxOk w bt bm bl bd m F size d) {n : Int} {t : List UInt8} (h0 : 0 ≤ n) (h1 : n < nBl size d) (ht : t.length = 512) (hT : TxIs w1 bt bm bl (putW n t m) false) (hw : Touch (fun k => k = bt ∨ k = bm) w w1) : TxOk w1 bt bm bl bd (putW n t m) F size d :=
  ⟨hT, h.log.touch hw (fun k hk hx => by
      rcases hx with rfl | rfl
      · exact h.nt hk
      · exact h.nm hk), h.on, h.len, h.s0, h.s1, h.nt, h.nm, putW_sorted n t m h.sorted, h.secs, fun x hx => by
      rcases putW_mem hx with rfl | ⟨hx, _⟩
      · exact ⟨h0, h1, ht⟩
      · exact h.keys x hx⟩
theorem TxOk.write {w : World} {bt bm bl bd : Nat} {m : List (Int × List UInt8)} {F : Nat → Prop} {size : Int} {d : Dk} (h : TxOk w bt bm bl bd m F size d) (n : Int) (t : List UInt8) (h0 : 0 ≤ n) (h1 : n < nBl size d) (ht : t.length = 512) :
    Calls Try.prog 17 #[.pointer (some ⟨bt, 0, none⟩), .int .i64 n, .string (bs t)] w fun e w' => e = .returned (.int .i64 0) ∧ TxOk w' bt bm bl bd (putW n t m) F size d ∧ Touch (fun k => k = bt ∨ k = bm) w w' := by
  refine (txWrite w bt bm bl bd m F size d n t h.tx h.log h.len h.s0 (by have := h.s1; have := h.len; omega) h0 h1 ht (by have := h.cnt; omega)).mono ?_
  rintro e w1 ⟨rfl, hT, hw⟩
  exact ⟨rfl, h.put h0 h1 ht hT hw, hw⟩
end Go.Proofs.Ythijhmidmhgfaaa

set_option linter.unusedVariables false
set_option linter.unusedSimpArgs false
namespace Go.Proofs.Ythijhmidmhgfaaa
open Go.RowKit Go.Proofs.YthijhmidmhgfaaaW.PrintWords Go.Proofs.YthijhmidmhgfaaaW.PrintLast Go.Maps Go.ChangeMaps
theorem plLy4 : Plan (opsOf Try.f47 4) [] [0, 1, 2, 3, 4, 5, 6, 7, 8, 9, 10, 11, 12, 13, 14, 15] [0, 0, 0, 0, 0, 0, 0, 0, 0, 0, 0, 0, 0, 0, 0, 0] := plan_mk (true, [([], []), ([], []), ([1], [1]), ([], []), ([3], [3]), ([4], [4]), ([0, 2, 5], [0, 2, 5]), ([], []), ([], []), ([8], [8]), ([], []), ([10], [10]), ([11], [11]), ([7, 9, 12], [7, 9, 12]), ([6, 0, 1, 2, 3, 4, 5, 6], [6]), ([13, 14, 0, 1, 2, 3, 4, 5, 6, 7, 8, 9, 10, 11, 12, 13, 14], [13])]) [0, 0, 2, 0, 8, 24, 63, 0, 0, 256, 0, 1024, 3072, 8064, 127, 32767] (by kernel_rfl) (by kernel_rfl) (by kernel_rfl)
theorem plLy6 : Plan (opsOf Try.f47 6) [12] [0, 1, 2, 4, 5, 6, 8, 10, 3, 7, 9, 11, 12, 13] [0, 0, 0, 1, 0, 0, 0, 1, 0, 0, 0, 1, 3, 0] := plan_mk (true, [([], []), ([0], [0]), ([1], [1]), ([2], [2]), ([], []), ([4], [4]), ([5], [5]), ([6], [6]), ([], []), ([7, 8], [7, 8]), ([], []), ([10], [10]), ([3, 9, 11], [3, 9, 11]), ([12, 12, 0, 1, 2, 3, 4, 5, 6, 7, 8, 9, 10, 11, 12], [12])]) [0, 1, 3, 7, 0, 16, 48, 112, 0, 496, 0, 1024, 4095, 8191] (by kernel_rfl) (by kernel_rfl) (by kernel_rfl)
set_option maxRecDepth 100000 in
theorem spLay (w : World) (bs' bt bm bl bd : Nat) (m : List (Int × List UInt8)) (F : Nat → Prop) (size : Int) (d : Dk) (first : Int) (g1 c1 g2 c2 : Nat) (M1 M2 : List UInt8) (hs : SpIs w bs' bt first) (h : TxOk w bt bm bl bd m F size d) (h0 : 0 ≤ first) (h1 : first + nBm size d ≤ nBl size d)
    (hM1 : ReadsInt w .u8 (some ⟨g1, 0, none⟩) M1.length (u8s M1)) (hM2 : ReadsInt w .u8 (some ⟨g2, 0, none⟩) M2.length (u8s M2)) (hl1 : M1.length = 512 * (nBm size d).toNat) (hl2 : M2.length = 512 * (nBm size d).toNat) (hc1 : M1.length ≤ c1) (hc2 : M2.length ≤ c2)
    (hg1 : g1 ≠ bt ∧ g1 ≠ bm) (hg2 : g2 ≠ bt ∧ g2 ≠ bm) (hbs : bs' ≠ bt ∧ bs' ≠ bm) :
    Calls Try.prog 47 #[.pointer (some ⟨bs', 0, none⟩), .slice (some ⟨g1, 0, none⟩) M1.length c1, .slice (some ⟨g2, 0, none⟩) M2.length c2] w fun e w' => e = .returned (.int .i64 0) ∧ TxOk w' bt bm bl bd (layM m first M1 M2 (nBm size d).toNat) F size d ∧ Touch (fun k => k = bt ∨ k = bm) w w' := by
  obtain ⟨n1, n2, n3, n4, n5, n6⟩ := nBm_range h
  have HB := Lib.hid (spBlocks w bt bm bl bd m F size d h)
  have HX := Lib.hid h
  have HSp := Lib.hid hs
  have HM1 := Lib.hid hM1
  have HM2 := Lib.hid hM2
  obtain ⟨nb, hnb⟩ := Int.eq_ofNat_of_zero_le (show 0 ≤ nBm size d by omega)
  rw [hnb] at HB h1 n1 n2
  rw [hnb, Int.toNat_natCast] at hl1 hl2
  have HQ := Lib.hid hnb
  have HL1 := Lib.hid hl1
  have HL2 := Lib.hid hl2
  have c0 := blk_cell hs.blk 0
  have HK1 := fun k (hk : k < nb) => Lib.hid (cut_part g1 nb c1 k M1 hl1 hk hc1)
  have HK2 := fun k (hk : k < nb) => Lib.hid (cut_part g2 nb c2 k M2 hl2 hk hc2)
  have hnn : nb ≤ 2 := by omega
  clear h hs hnb n3 n5 n6 hM1 hM2 hl1 hl2
  go_enter Try.func47, Try.ntmps47
  go_wp2_with (go_at_call 71; (with_reducible refine (HB.out).mono ?_); rintro e w1 ⟨rfl, hb⟩; have HB1 := Lib.hid hb; clear hb)
  go_loopw [16] (fun i wr => ∃ k : Nat, k ≤ nb ∧ i = .int .i64 k ∧ Hid (TxOk wr bt bm bl bd (layM m first M1 M2 k) F size d) ∧ Hid (Touch (fun k => k = bt ∨ k = bm) w wr)) (fun i _ => nb - (intOf i).toNat)
  case atStart => exact ⟨0, Nat.zero_le _, rfl, Lib.hid (HX.out.below HB1.out), Lib.hid (Touch.of HB1.out)⟩
  case round =>
    clear HB1 HX HB
    obtain ⟨k, hk, rfl, HX, HT⟩ := hrel
    by_cases hlt : k < nb
    · have hk0 : (k : Int) < 2 := by omega
      have e1 : wrap64 ((k : Int) * 512) = (k : Int) * 512 := by unfold wrap64; omega
      have e2 : wrap64 ((k : Int) + 1) = (k : Int) + 1 := by unfold wrap64; omega
      have e3 : wrap64 (((k : Int) + 1) * 512) = ((k : Int) + 1) * 512 := by unfold wrap64; omega
      have k1 := (HK1 k hlt).out
      have k2 := (HK2 k hlt).out
      go_wp2_with fail
      refine way_start (fun w' => True) plLy4 (by kernel_rfl) rfl (trivial) (fun hHeld => ?_)
      repeat (first
        | (refine way_pure (v := undef) (a' := ?_) plLy4 rfl rfl rfl (fun _ _ _ h => h) (Or.inr ⟨by rfl, rfl⟩) ?_ ?_; rotate_left; (· (simp only [aw]; rfl)))
        | (refine way_pure (v := ?_) (a' := ?_) plLy4 rfl rfl rfl (fun _ _ _ h => h) (Or.inl ⟨by rfl, ?_⟩) ?_ ?_; rotate_left; (· (intro w'; go_simp; with_reducible rfl)); rotate_left; (· (simp only [aw]; rfl)))
        | (refine way_take (v := ?_) (a' := ?_) plLy4 rfl rfl rfl (fun _ _ _ h => h) (Or.inl ⟨by rfl, ?_⟩) hHeld ?_ ?_; rotate_left; (· (intro w' _; go_simp; with_reducible rfl)); rotate_left; (· (simp only [aw]; rfl))))
      refine way_done plLy4 rfl (by decide) ?_
      have HTd := Lib.hid (HT.out.drew)
      have r1 := reads_part (ReadsInt_touch HM1.out HTd.out (fun ad e _ hx => by cases e; rcases hx with hx | hx; exact hg1.1 hx; exact hg1.2 hx)) HL1.out hlt hc1
      have r2 := reads_part (ReadsInt_touch HM2.out HTd.out (fun ad e _ hx => by cases e; rcases hx with hx | hx; exact hg2.1 hx; exact hg2.2 hx)) HL2.out hlt hc2
      have hp1 := part_len M1 k nb HL1.out hlt
      have hp2 := part_len M2 k nb HL2.out hlt
      have hE := equal_u8 wr.drew _ _ (c1 - 512 * k) (c2 - 512 * k) (part M1 k) (part M2 k) r1 r2
      rw [hp1, hp2] at hE
      have HE := Lib.hid hE
      have HR2 := Lib.hid r2
      have HP2 := Lib.hid hp2
      have HN : Hid (layM m first M1 M2 (k + 1) = if part M1 k == part M2 k then layM m first M1 M2 k else putW (first + (k : Int)) (part M2 k) (layM m first M1 M2 k)) := Lib.hid rfl
      clear r1 r2 hp1 hp2 hE k1 k2 e1 e2 e3
      cases hq : (part M1 k == part M2 k) with
      | true =>
        rw [hq] at HE HN
        clear hq
        go_wp2_with (go_at_call 72; (with_reducible refine (HE.out).mono ?_); rintro e w2 ⟨rfl, hb2⟩; have HB2 := Lib.hid hb2; clear hb2)
        refine ⟨⟨k + 1, by omega, by go_num, Lib.hid ?_, Lib.hid (HTd.out.then HB2.out)⟩, by simp [intOf]; omega⟩
        rw [HN.out]
        exact HX.out.below ((below_drew (Below.refl _ _)).trans HB2.out)
      | false =>
        rw [hq] at HE HN
        clear hq
        go_wp2_with fail
        (with_reducible refine HE.out.mono ?_)
        rintro e w2 ⟨rfl, hb2⟩
        have HB2 := Lib.hid hb2
        have HBd : Hid (Below wr.heap.size wr w2.drew) := Lib.hid (((below_drew (Below.refl _ _)).trans hb2).drew)
        clear hb2
        have HX2 := Lib.hid (HX.out.below HBd.out)
        have HT2 := Lib.hid (HT.out.then HBd.out)
        have hsp := HSp.out.touch HT2.out (fun hx => by rcases hx with hx | hx; exact hbs.1 hx; exact hbs.2 hx)
        have x0 := blk_cell hsp.blk 0
        have x1 := blk_cell hsp.blk 1
        have cv := bytes_of_reads (c := c2 - 512 * k) (ReadsInt.below HR2.out (HB2.out.drew))
        rw [HP2.out] at cv
        have CV := Lib.hid cv
        have e4 : wrap64 (first + (k : Int)) = first + (k : Int) := by unfold wrap64; omega
        clear hsp cv
        go_wp2_with fail
        refine way_start (fun w' => w'.cell? ⟨bs', 0, none⟩ = some (.pointer (some ⟨bt, 0, none⟩)) ∧ w'.cell? ⟨bs', 1, none⟩ = some (.int .i64 first) ∧ (convert 40 9 (.slice (some ⟨g2, 512 * k, none⟩) 512 (c2 - 512 * k))).run Try.prog w' = .ok (.string (bs (part M2 k))) w') plLy6 (by kernel_rfl) rfl (⟨x0, x1, CV.out⟩) (fun hHeld => ?_)
        repeat (first
          | (refine way_pure (v := undef) (a' := ?_) plLy6 rfl rfl rfl (fun _ _ _ h => h) (Or.inr ⟨by rfl, rfl⟩) ?_ ?_; rotate_left; (· (simp only [aw]; rfl)))
          | (refine way_pure (v := ?_) (a' := ?_) plLy6 rfl rfl rfl (fun _ _ _ h => h) (Or.inl ⟨by rfl, ?_⟩) ?_ ?_; rotate_left; (· (intro w'; go_simp; with_reducible rfl)); rotate_left; (· (simp only [aw]; rfl)))
          | (refine way_take (v := ?_) (a' := ?_) plLy6 rfl rfl rfl (fun _ _ _ h => h) (Or.inl ⟨by rfl, ?_⟩) hHeld ?_ ?_; rotate_left; (· (rintro w' ⟨s0, s1, s2⟩; go_simp; with_reducible rfl)); rotate_left; (· (simp only [aw]; rfl))))
        rw [e4]
        refine way_last plLy6 rfl rfl rfl (fun K hK => ?_)
        refine goes_ Try.func17 (by kernel_rfl) rfl #[.pointer (some ⟨bt, 0, none⟩), .int .i64 (first + (k : Int)), .string (bs (part M2 k))] (by rfl) rfl rfl (by simp only [List.map_toArray, List.map_cons, List.map_nil]; rfl) ?_
        with_reducible refine (HX2.out.write (first + (k : Int)) (part M2 k) (by omega) (by omega) HP2.out).mono ?_
        rintro e w3 ⟨rfl, hx3, ht3⟩
        refine ⟨_, rfl, ?_⟩
        have HX3 := Lib.hid hx3; clear hx3
        have HT3 := Lib.hid ht3; clear ht3
        refine hK.out _ _ ?_
        clear hK K
        refine way_norm (a' := ?_) ?_ ?_
        rotate_left
        · simp only [aw]
          rfl
        repeat (first
          | (refine way_pure (v := undef) (a' := ?_) plLy6 rfl rfl rfl (fun _ _ _ h => h) (Or.inr ⟨by rfl, rfl⟩) ?_ ?_; rotate_left; (· (simp only [aw]; rfl)))
          | (refine way_pure (v := ?_) (a' := ?_) plLy6 rfl rfl rfl (fun _ _ _ h => h) (Or.inl ⟨by rfl, ?_⟩) ?_ ?_; rotate_left; (· (intro w'; go_simp; with_reducible rfl)); rotate_left; (· (simp only [aw]; rfl)))
          | (refine way_take (v := ?_) (a' := ?_) plLy6 rfl rfl rfl (fun _ _ _ h => h) (Or.inl ⟨by rfl, ?_⟩) hHeld ?_ ?_; rotate_left; (· (rintro w' ⟨s0, s1, s2⟩; go_simp; with_reducible rfl)); rotate_left; (· (simp only [aw]; rfl))))
        refine way_done plLy6 rfl (by decide) ?_
        go_wp2
        refine ⟨⟨k + 1, by omega, by go_num, Lib.hid ?_, Lib.hid (HT2.out.same HT3.out)⟩, by simp [intOf]; omega⟩
        rw [HN.out]
        exact HX3.out
    · obtain rfl : k = nb := by omega
      go_wp2
      go_ret
      refine ⟨rfl, ?_, HT.out⟩
      rw [HQ.out]
      exact HX.out
end Go.Proofs.Ythijhmidmhgfaaa

set_option linter.unusedVariables false
set_option linter.unusedSimpArgs false
namespace Go.Proofs.Ythijhmidmhgfaaa
open Go.RowKit Go.Proofs.YthijhmidmhgfaaaW.PrintWords Go.Proofs.YthijhmidmhgfaaaW.PrintLast Go.Maps Go.ChangeMaps
/-- the free blocks from lo on, below hi -/
def freeL (M : List UInt8) (lo hi : Nat) : List Nat := (List.range hi).filter fun n => decide (lo ≤ n) && !bitM M n
theorem freeL_succ (M : List UInt8) (lo hi : Nat) (h : lo ≤ hi) : freeL M lo (hi + 1) = freeL M lo hi ++ (if bitM M hi then [] else [hi]) := by
  unfold freeL
  rw [List.range_succ, List.filter_append]
  congr 1
  rw [List.filter_cons, decide_eq_true h]
  cases bitM M hi <;> rfl
theorem freeL_used (M : List UInt8) (lo hi : Nat) (h : lo ≤ hi) (hb : bitM M hi = true) : freeL M lo (hi + 1) = freeL M lo hi := by rw [freeL_succ M lo hi h, hb, if_pos rfl, List.append_nil]
theorem freeL_free (M : List UInt8) (lo hi : Nat) (h : lo ≤ hi) (hb : bitM M hi = false) : freeL M lo (hi + 1) = freeL M lo hi ++ [hi] := by rw [freeL_succ M lo hi h, hb]; rfl
theorem freeL_self (M : List UInt8) (lo : Nat) : freeL M lo lo = [] := by
  unfold freeL
  rw [List.filter_eq_nil_iff]
  intro a ha
  rw [List.mem_range] at ha
  rw [decide_eq_false (by omega)]
  simp
theorem freeL_len (M : List UInt8) (lo hi : Nat) : (freeL M lo hi).length ≤ hi := by
  unfold freeL
  exact Nat.le_trans (List.length_filter_le _ _) (by rw [List.length_range]; exact Nat.le_refl _)
theorem left1 (w : World) (bv : Nat) (k n : Int) (h : w.heap[bv]? = some (.cells #[.int .i64 k] 3 (0, 0))) (h0 : 0 ≤ k) (h1 : k ≤ 100000) : Calls Try.prog 43 #[.int .i64 n, .pointer (some ⟨bv, 0, none⟩)] w fun e w' => e = .returned (.bool true) ∧ w' = w.setCell ⟨bv, 0, none⟩ (.int .i64 (k + 1)) := by
  have c0 := blk_cell h 0
  have f0 := blk_frozen h 0
  clear h
  go_enter Try.func43, Try.ntmps43
  go_wp2
  go_ret
  exact ⟨rfl, rfl⟩
/-- a space, its transaction, its bitmap as it was read -/
structure SpRd (w : World) (bs' bt bm bl bd : Nat) (m : List (Int × List UInt8)) (F : Nat → Prop) (size : Int) (d : Dk) (first : Int) (A : Option Addr) (M : List UInt8) : Prop where
  sp : SpIs w bs' bt first
  ok : TxOk w bt bm bl bd m F size d
  f0 : 0 ≤ first
  f1 : first + nBm size d ≤ nBl size d
  rd : ReadsInt w .u8 A M.length (u8s M)
  ml : M.length = 512 * (nBm size d).toNat
theorem SpRd.below {w w1 : World} {bs' bt bm bl bd : Nat} {m : List (Int × List UInt8)} {F : Nat → Prop} {size : Int} {d : Dk} {first : Int} {A : Option Addr} {M : List UInt8} (h : SpRd w bs' bt bm bl bd m F size d first A M) (hb : Below w.heap.size w w1) : SpRd w1 bs' bt bm bl bd m F size d first A M :=
  ⟨h.sp.below hb, h.ok.below hb, h.f0, h.f1, h.rd.below hb, h.ml⟩
theorem SpRd.touch {w w1 : World} {bs' bt bm bl bd : Nat} {m : List (Int × List UInt8)} {F G : Nat → Prop} {size : Int} {d : Dk} {first : Int} {A : Option Addr} {M : List UInt8} (h : SpRd w bs' bt bm bl bd m F size d first A M) (ht : Touch G w w1)
    (h1 : ¬ G bs') (h2 : ¬ G bt) (h3 : ¬ G bm) (h4 : ∀ k, F k → ¬ G k) (h5 : ∀ ad, A = some ad → ¬ G ad.block) : SpRd w1 bs' bt bm bl bd m F size d first A M :=
  ⟨h.sp.touch ht h1, { h.ok with tx := h.ok.tx.touch ht h2 h3, log := h.ok.log.touch ht h4 }, h.f0, h.f1, ReadsInt_touch h.rd ht (fun ad e _ => h5 ad e), h.ml⟩
section
variable {w : World} {bs' bt bm bl bd : Nat} {m : List (Int × List UInt8)} {F : Nat → Prop} {size : Int} {d : Dk} {first : Int} {A : Option Addr} {M : List UInt8}
theorem SpRd.used (h : SpRd w bs' bt bm bl bd m F size d first A M) (c n : Nat) (hn : (n : Int) < nBl size d) (hk : ¬ (n : Int) < first + nBm size d) :
    Calls Try.prog 48 #[.pointer (some ⟨bs', 0, none⟩), .slice A M.length c, .int .i64 (n : Int)] w fun e w' => e = .returned (.bool (bitM M n)) ∧ Below w.heap.size w w' := by
  obtain ⟨n1, n2, n3, n4, n5, n6⟩ := nBm_range h.ok
  have hu := spUsed w bs' bt bm bl bd m F size d first n A c M h.sp h.ok h.f0 (by have := h.f1; omega) h.rd (by have := h.ml; omega) (by have := h.ml; omega)
  rwa [decide_eq_false hk, Bool.false_or] at hu
end
theorem plFr0 : Plan (opsOf Try.f42 0) [] [0, 1, 2, 4, 5, 6, 3, 7, 8, 9, 10] [0, 0, 0, 1, 0, 0, 0, 1, 2, 0, 0] := plan_mk (true, [([], []), ([0], [0]), ([1], [1]), ([2], [2]), ([], []), ([4], [4]), ([5], [5]), ([6], [6]), ([7], [7]), ([3, 8], [3, 8]), ([9, 8, 0, 1, 2, 3, 4, 5, 6, 7, 8, 9], [9])]) [0, 1, 3, 7, 0, 16, 48, 112, 240, 511, 1023] (by kernel_rfl) (by kernel_rfl) (by kernel_rfl)
set_option maxRecDepth 100000 in
theorem freeLeft (w : World) (bs' bt bm bl bd bv : Nat) (m : List (Int × List UInt8)) (F : Nat → Prop) (size : Int) (d : Dk) (first : Int) (A : Option Addr) (c : Nat) (M : List UInt8) (h : SpRd w bs' bt bm bl bd m F size d first A M)
    (hv : w.heap[bv]? = some (.cells #[.int .i64 0] 3 (0, 0))) (v1 : bs' ≠ bv) (v2 : bt ≠ bv) (v3 : bm ≠ bv) (v4 : ¬ F bv) (v5 : ∀ ad, A = some ad → ad.block ≠ bv) :
    Calls Try.prog 42 #[.pointer (some ⟨bs', 0, none⟩), .slice A M.length c, .func (.func 43) #[] #[.pointer (some ⟨bv, 0, none⟩)]] w fun e w' => e = .returned (.tuple #[]) ∧
      w'.heap[bv]? = some (.cells #[.int .i64 ((freeL M (first + nBm size d).toNat (nBl size d).toNat).length : Int)] 3 (0, 0)) ∧ Touch (fun k => k = bv) w w' := by
  obtain ⟨n1, n2, n3, n4, n5, n6⟩ := nBm_range h.ok
  have HX := Lib.hid h
  have HB := Lib.hid (spBlocks w.drew bt bm bl bd m F size d (h.ok.below (below_drew (Below.refl _ _))))
  have c0 := blk_cell h.sp.blk 0
  have c1 := blk_cell h.sp.blk 1
  have hf0 := h.f0
  have hf1 := h.f1
  obtain ⟨lo, hlo⟩ := Int.eq_ofNat_of_zero_le (show 0 ≤ first + nBm size d by omega)
  obtain ⟨N, hN⟩ := Int.eq_ofNat_of_zero_le (show 0 ≤ nBl size d by omega)
  have e4 : wrap64 (first + nBm size d) = (lo : Int) := by unfold wrap64; omega
  have HV := Lib.hid hv
  have q1 : lo ≤ N := by omega
  have q2 : N ≤ 8192 := by omega
  have HN1 := Lib.hid (And.intro hlo hN)
  rw [show (first + nBm size d).toNat = lo by omega, show (nBl size d).toNat = N by omega]
  have HMv : ∀ wr, Touch (fun k => k = bv) w wr → SpRd wr bs' bt bm bl bd m F size d first A M := fun wr ht => h.touch ht v1 v2 v3 (fun k hk e => v4 (e ▸ hk)) v5
  have HMV := Lib.hid HMv
  clear h hv hf0 hf1 hlo hN n1 n2 n3 n4 n5 n6 HMv
  go_enter Try.func42, Try.ntmps42
  go_wp2_with fail
  refine way_start (fun w' => w'.cell? ⟨bs', 1, none⟩ = some (.int .i64 first) ∧ w'.cell? ⟨bs', 0, none⟩ = some (.pointer (some ⟨bt, 0, none⟩))) plFr0 (by kernel_rfl) rfl (⟨c1, c0⟩) (fun hHeld => ?_)
  repeat (first
    | (refine way_pure (v := undef) (a' := ?_) plFr0 rfl rfl rfl (fun _ _ _ h => h) (Or.inr ⟨by rfl, rfl⟩) ?_ ?_; rotate_left; (· (simp only [aw]; rfl)))
    | (refine way_pure (v := ?_) (a' := ?_) plFr0 rfl rfl rfl (fun _ _ _ h => h) (Or.inl ⟨by rfl, ?_⟩) ?_ ?_; rotate_left; (· (intro w'; go_simp; with_reducible rfl)); rotate_left; (· (simp only [aw]; rfl)))
    | (refine way_take (v := ?_) (a' := ?_) plFr0 rfl rfl rfl (fun _ _ _ h => h) (Or.inl ⟨by rfl, ?_⟩) hHeld ?_ ?_; rotate_left; (· (rintro w' ⟨s0, s1⟩; go_simp; with_reducible rfl)); rotate_left; (· (simp only [aw]; rfl))))
  refine way_one plFr0 rfl rfl rfl (fun K hK => ?_)
  refine goes_ Try.func71 (by kernel_rfl) rfl #[.pointer (some ⟨bt, 0, none⟩)] (by rfl) rfl rfl (by simp only [List.map_toArray, List.map_cons, List.map_nil]; rfl) ?_
  with_reducible refine (HB.out).mono ?_
  rintro e w1 ⟨rfl, hb⟩
  refine ⟨_, rfl, ?_⟩
  have HB1 := Lib.hid hb; clear hb
  refine hK.out _ _ ⟨pw_cell_below HB1.out hHeld.1, pw_cell_below HB1.out hHeld.2⟩ (fun hHeld => ?_)
  clear hK K
  refine way_norm (a' := ?_) ?_ ?_
  rotate_left
  · simp only [aw]
    rfl
  repeat (first
    | (refine way_pure (v := undef) (a' := ?_) plFr0 rfl rfl rfl (fun _ _ _ h => h) (Or.inr ⟨by rfl, rfl⟩) ?_ ?_; rotate_left; (· (simp only [aw]; rfl)))
    | (refine way_pure (v := ?_) (a' := ?_) plFr0 rfl rfl rfl (fun _ _ _ h => h) (Or.inl ⟨by rfl, ?_⟩) ?_ ?_; rotate_left; (· (intro w'; go_simp; with_reducible rfl)); rotate_left; (· (simp only [aw]; rfl)))
    | (refine way_take (v := ?_) (a' := ?_) plFr0 rfl rfl rfl (fun _ _ _ h => h) (Or.inl ⟨by rfl, ?_⟩) hHeld ?_ ?_; rotate_left; (· (rintro w' ⟨s0, s1⟩; go_simp; with_reducible rfl)); rotate_left; (· (simp only [aw]; rfl))))
  rw [e4]
  refine way_done plFr0 rfl (by decide) ?_
  have HB2 : Hid (Below w.heap.size w w1) := Lib.hid ((below_drew (Below.refl _ _)).trans HB1.out)
  go_wp2
  go_loopw [6] (fun i wr => ∃ n : Nat, lo ≤ n ∧ n ≤ N ∧ i = .int .i64 n ∧ Hid (wr.heap[bv]? = some (.cells #[.int .i64 ((freeL M lo n).length : Int)] 3 (0, 0))) ∧ Hid (Touch (fun k => k = bv) w wr)) (fun i _ => N - (intOf i).toNat)
  case atStart => exact ⟨lo, Nat.le_refl _, q1, rfl, Lib.hid (by rw [freeL_self]; exact blk_below HV.out HB2.out), Lib.hid (Touch.of HB2.out)⟩
  case round =>
    obtain ⟨n, hn1, hn2, rfl, HC, HT⟩ := hrel
    have hx := HMV.out wr HT.out
    have HX1 := Lib.hid hx
    have x0 := blk_cell hx.sp.blk 0
    have HBk := Lib.hid hx.ok.blocks
    rw [show (d.seen.length : Int) - size = (N : Int) from HN1.out.2] at HBk
    clear hx
    by_cases hlt : n < N
    · have hnN : (n : Int) < (N : Int) := by omega
      have hn8 : (n : Int) < 8192 := by omega
      have HUs := fun w' (hb : Below wr.heap.size wr w') => Lib.hid ((HX1.out.below hb).used c n (by rw [HN1.out.2]; exact hnN) (by rw [HN1.out.1]; omega))
      cases hbit : bitM M n with
      | true =>
        have HS := Lib.hid (freeL_used M lo n hn1 hbit)
        rw [hbit] at HUs
        go_wp2_with (first
          | (go_at_call 25; (with_reducible refine (HBk.out).mono ?_); rintro e w2 ⟨rfl, hb2⟩; have HB3 := Lib.hid hb2; clear hb2)
          | (go_at_call 48; (with_reducible refine ((HUs _ HB3.out).out).mono ?_); rintro e w3 ⟨rfl, hb3⟩; have HB4 := Lib.hid (below_then HB3.out HB3.out.size hb3); clear hb3))
        refine ⟨⟨n + 1, by omega, by omega, by go_num, Lib.hid ?_, Lib.hid (HT.out.then HB4.out)⟩, by simp [intOf]; omega⟩
        rw [HS.out]
        exact blk_below HC.out HB4.out
      | false =>
        have HS := Lib.hid (freeL_free M lo n hn1 hbit)
        rw [hbit] at HUs
        have hfl : (freeL M lo n).length ≤ n := freeL_len M lo n
        generalize hk : (freeL M lo n).length = k at *
        have HK := Lib.hid hk
        clear hk
        have HL1 := fun w' (hb : Below wr.heap.size wr w') => Lib.hid (left1 w' bv k n (blk_below HC.out hb) (by omega) (by omega))
        go_wp2_with (first
          | (go_at_call 25; (with_reducible refine (HBk.out).mono ?_); rintro e w2 ⟨rfl, hb2⟩; have HB3 := Lib.hid hb2; clear hb2)
          | (go_at_call 48; (with_reducible refine ((HUs _ HB3.out).out).mono ?_); rintro e w3 ⟨rfl, hb3⟩; have HB4 := Lib.hid (below_then HB3.out HB3.out.size hb3); clear hb3))
        (with_reducible refine (HL1 _ HB4.out).out.mono ?_)
        rintro e w4 ⟨rfl, hw4⟩
        have HW4 := Lib.hid hw4
        clear hw4
        go_wp2
        have hv3 := blk_below HC.out HB4.out
        have ht4 : Touch (fun k => k = bv) w w4 := by rw [HW4.out]; exact (HT.out.then HB4.out).put _ _
        refine ⟨⟨n + 1, by omega, by omega, by go_num, Lib.hid ?_, Lib.hid ht4⟩, by simp [intOf]; omega⟩
        rw [HS.out, List.length_append, HK.out, HW4.out]
        exact blk_put hv3 0 _ rfl
    · obtain rfl : n = N := by omega
      go_wp2_with (go_at_call 25; (with_reducible refine (HBk.out).mono ?_); rintro e w2 ⟨rfl, hb2⟩; have HB3 := Lib.hid hb2; clear hb2)
      go_end0
      exact ⟨rfl, blk_below HC.out HB3.out, HT.out.then HB3.out⟩
/-- a space, its transaction, its bitmap -/
structure SpOk (w : World) (bs' bt bm bl bd : Nat) (m : List (Int × List UInt8)) (F : Nat → Prop) (size : Int) (d : Dk) (first : Int) : Prop where
  sp : SpIs w bs' bt first
  ok : TxOk w bt bm bl bd m F size d
  f0 : 0 ≤ first
  f1 : first + nBm size d ≤ nBl size d
  ns : ¬ F bs'
  st : bs' ≠ bt
  sm : bs' ≠ bm
theorem SpOk.below {w w1 : World} {bs' bt bm bl bd : Nat} {m : List (Int × List UInt8)} {F : Nat → Prop} {size : Int} {d : Dk} {first : Int} (h : SpOk w bs' bt bm bl bd m F size d first) (hb : Below w.heap.size w w1) : SpOk w1 bs' bt bm bl bd m F size d first :=
  { h with sp := h.sp.below hb, ok := h.ok.below hb }
/-- what the bitmap of a space says -/
def mapOf (size : Int) (d : Dk) (m : List (Int × List UInt8)) (first : Int) : List UInt8 := bmV size d m first (nBm size d).toNat
def freeOf (size : Int) (d : Dk) (m : List (Int × List UInt8)) (first : Int) : List Nat := freeL (mapOf size d m first) (first + nBm size d).toNat (nBl size d).toNat
theorem mapOf_len {w : World} {bs' bt bm bl bd : Nat} {m : List (Int × List UInt8)} {F : Nat → Prop} {size : Int} {d : Dk} {first : Int} (h : SpOk w bs' bt bm bl bd m F size d first) : (mapOf size d m first).length = 512 * (nBm size d).toNat :=
  bmV_len h.ok first h.f0 _ (by have := h.f1; have := (nBm_range h.ok).1; omega)
theorem SpOk.lt {w : World} {bs' bt bm bl bd : Nat} {m : List (Int × List UInt8)} {F : Nat → Prop} {size : Int} {d : Dk} {first : Int} (h : SpOk w bs' bt bm bl bd m F size d first) : bs' < w.heap.size ∧ bt < w.heap.size ∧ bm < w.heap.size := ⟨blk_lt h.sp.blk, blk_lt h.ok.tx.blk, h.ok.tx.own.lt⟩
theorem spMap (w : World) (bs' bt bm bl bd : Nat) (m : List (Int × List UInt8)) (F : Nat → Prop) (size : Int) (d : Dk) (first : Int) (h : SpOk w bs' bt bm bl bd m F size d first) :
    Calls Try.prog 41 #[.pointer (some ⟨bs', 0, none⟩)] w fun e w' => ∃ v, e = .returned (.tuple #[v, .int .i64 0]) ∧ BRow w' w.heap.size v (mapOf size d m first) ∧ Below w.heap.size w w' := spBitmap w bs' bt bm bl bd m F size d first h.sp h.ok h.f0 h.f1
set_option maxRecDepth 100000 in
theorem spLeft (w : World) (bs' bt bm bl bd : Nat) (m : List (Int × List UInt8)) (F : Nat → Prop) (size : Int) (d : Dk) (first : Int) (h : SpOk w bs' bt bm bl bd m F size d first) (hF : ∀ k, F k → k < w.heap.size) :
    Calls Try.prog 13 #[.pointer (some ⟨bs', 0, none⟩)] w fun e w' => e = .returned (.int .i64 ((freeOf size d m first).length : Int)) ∧ Below w.heap.size w w' := by
  have HB := Lib.hid (spMap w bs' bt bm bl bd m F size d first h)
  have HX := Lib.hid h
  have HF := Lib.hid hF
  obtain ⟨l1, l2, l3⟩ := h.lt
  have hml := mapOf_len h
  have HML := Lib.hid hml
  clear h hF hml
  go_enter Try.func13, Try.ntmps13
  go_wp2_with (go_at_call 41; (with_reducible refine (HB.out).mono ?_); rintro e w1 ⟨v, rfl, hr1, hb1⟩; obtain ⟨A, c, rfl, hrd⟩ := hr1.reads; have HR1 := Lib.hid hr1; clear hr1; have HRD := Lib.hid hrd; clear hrd; have HB1 := Lib.hid hb1; clear hb1)
  have hx1 := HX.out.below (HB1.out.trans ((below_alloc (Below.refl _ _) (.cells #[.int .i64 0] 3 (0, 0))).mono HB1.out.size))
  have hlt := HB1.out.size
  have HFr := Lib.hid (freeLeft (w1.alloc (.cells #[.int .i64 0] 3 (0, 0))) bs' bt bm bl bd w1.heap.size m F size d first A c (mapOf size d m first) ⟨hx1.sp, hx1.ok, hx1.f0, hx1.f1, ReadsInt.below HRD.out (below_alloc (Below.refl _ _) _), HML.out⟩ (blk_new w1 _)
    (by omega) (by omega) (by omega) (fun hf => by have := HF.out _ hf; omega) (fun ad e hb => by
      subst e
      have := own_lt HR1.out ad.block (by simp [Value.ownBlock])
      omega))
  clear hx1
  (with_reducible refine HFr.out.mono ?_)
  rintro e w2 ⟨rfl, hv2, ht2⟩
  have x0 := blk_cell hv2 0
  have HT2 := Lib.hid ht2
  clear hv2 ht2
  go_wp2
  go_ret
  refine ⟨rfl, ?_⟩
  exact HT2.out.below (below_then HB1.out hlt (below_alloc (Below.refl _ _) _)) (by simp [go_sem]; omega) (fun k hk => by omega)
end Go.Proofs.Ythijhmidmhgfaaa

set_option linter.unusedVariables false
set_option linter.unusedSimpArgs false
namespace Go.Proofs.Ythijhmidmhgfaaa
open Go.RowKit Go.Proofs.YthijhmidmhgfaaaW.PrintWords Go.Proofs.YthijhmidmhgfaaaW.PrintLast Go.Maps Go.ChangeMaps
def setb (x : UInt8) (r : Nat) : UInt8 := UInt8.ofNat (x.toNat ||| 2 ^ r)
def setB (M : List UInt8) (k : Nat) : List UInt8 := M.set (k / 8) (setb (M.getD (k / 8) 0) (k % 8))
theorem setb_fin : ∀ x : Fin 256, ∀ r : Fin 8, bits .or .u8 ((x.val : Nat) : Int) (IntKind.u8.wrap (2 ^ r.val)) = (((UInt8.ofNat (x.val ||| 2 ^ r.val)).toNat : Nat) : Int) := by decide +kernel
theorem setb_or (x : UInt8) (r : Nat) (h : r < 8) : bits .or .u8 (x.toNat : Int) (IntKind.u8.wrap (2 ^ r)) = ((setb x r).toNat : Int) := setb_fin ⟨x.toNat, x.toNat_lt⟩ ⟨r, h⟩
theorem setb_bit_fin : ∀ x : Fin 256, ∀ r : Fin 8, ∀ j : Fin 8, (UInt8.ofNat (x.val ||| 2 ^ r.val)).toNat.testBit j.val = (decide (j = r) || x.val.testBit j.val) := by decide +kernel
theorem setb_bit (x : UInt8) (r j : Nat) (h : r < 8) (hj : j < 8) : (setb x r).toNat.testBit j = (decide (j = r) || x.toNat.testBit j) := by
  have := setb_bit_fin ⟨x.toNat, x.toNat_lt⟩ ⟨r, h⟩ ⟨j, hj⟩
  simpa [setb] using this
def kI : Kd Int := Kd.int .i64
theorem i_info : (Try.prog.info? 3).map (fun i => (i.zero, i.size, i.bytes)) = some (some (.int .i64 0), 1, 8) := by kernel_rfl
/-- what Alloc's own function works on: the list, how many are wanted, the bitmap that is marked -/
structure AlS (w : World) (B bL bN bI gi : Nat) (q : Int) (cI : Nat) (vL : Value) (acc : List Int) (M : List UInt8) : Prop where
  blkL : w.heap[bL]? = some (.cells #[vL] 22 (0, 0))
  blkN : w.heap[bN]? = some (.cells #[.int .i64 q] 3 (0, 0))
  blkI : w.heap[bI]? = some (.cells #[.slice (some ⟨gi, 0, none⟩) M.length cI] 40 (0, 0))
  rowL : kI.R 3 w 0 (fun k => B ≤ k ∧ k ≠ bN) vL acc
  rowI : BRow w 0 (.slice (some ⟨gi, 0, none⟩) M.length cI) M
  b1 : B ≤ bL
  b2 : B ≤ bI
  b3 : B ≤ gi
theorem AlS.grown {w w3 : World} {B bL bN bI gi cI : Nat} {q : Int} {vL : Value} {acc : List Int} {M : List UInt8} (h : AlS w B bL bN bI gi q cI vL acc M) (hg : w.grownBy w3 vL.ownBlock) :
    w3.heap[bL]? = some (.cells #[vL] 22 (0, 0)) ∧ w3.heap[bN]? = some (.cells #[.int .i64 q] 3 (0, 0)) ∧ w3.heap[bI]? = some (.cells #[.slice (some ⟨gi, 0, none⟩) M.length cI] 40 (0, 0)) ∧ BRow w3 0 (.slice (some ⟨gi, 0, none⟩) M.length cI) M := by
  refine ⟨blk_grown h.blkL hg (Kd.R_ne h.rowL h.blkL (by decide)), blk_grown h.blkN hg (fun e => (h.rowL.1 bN e.symm).2 rfl), blk_grown h.blkI hg (Kd.R_ne h.rowL h.blkI (by decide)), ?_⟩
  refine own_other h.rowI hg (.inr (fun e => ?_))
  obtain ⟨cs1, e1⟩ := own_typed h.rowI gi (by simp [Value.ownBlock])
  obtain ⟨cs2, e2⟩ := Kd.R_typed h.rowL gi (by rw [← e]; simp [Value.ownBlock])
  rw [e1] at e2
  injection e2 with e2
  injection e2 with _ e2
  exact absurd e2 (by decide)
theorem AlS.app {w w3 : World} {B bL bN bI gi cI : Nat} {q : Int} {vL : Value} {acc : List Int} {M : List UInt8} {x : Int} {A3 : Option Addr} {c3 : Nat} (h : AlS w B bL bN bI gi q cI vL acc M) (hB : B ≤ w.heap.size)
    (hR : kI.R 3 w3 0 (fun k => (B ≤ k ∧ k ≠ bN) ∨ w.heap.size ≤ k) (.slice A3 (acc.length + 1) c3) (acc ++ [x])) (hg : w.grownBy w3 vL.ownBlock) :
    AlS (w3.setCell ⟨bL, 0, none⟩ (.slice A3 (acc.length + 1) c3)) B bL bN bI gi q cI (.slice A3 (acc.length + 1) c3) (acc ++ [x]) M ∧ Below B w (w3.setCell ⟨bL, 0, none⟩ (.slice A3 (acc.length + 1) c3)) := by
  obtain ⟨g1, g2, g3, g4⟩ := h.grown hg
  have d1 : bL ≠ bN := blk_ne h.blkL h.blkN (by decide)
  have d2 : bL ≠ bI := blk_ne h.blkL h.blkI (by decide)
  have ht : Touch (fun k => k = bL) w3 (w3.setCell ⟨bL, 0, none⟩ (.slice A3 (acc.length + 1) c3)) := (Touch.refl _ _).put _ _
  have hbn := blk_lt h.blkN
  refine ⟨⟨blk_put g1 0 _ rfl, blk_far g2 (fun e => d1 e.symm) _, blk_far g3 (fun e => d2 e.symm) _, ?_, g4.touch ht (fun k hk e => ?_), h.b1, h.b2, h.b3⟩, ?_⟩
  · have h1 := Kd.R_mono hR (ok' := fun k => B ≤ k ∧ k ≠ bN) (fun k hk => by
      rcases hk with hk | hk
      · exact hk
      · exact ⟨by omega, by omega⟩)
    have h2 := Kd.R_mono (Kd.R_types h1 g1 (fun q hq => by rw [List.mem_singleton.1 (show q ∈ [3] from hq)]; decide)) (ok' := fun k => (B ≤ k ∧ k ≠ bN) ∧ k ≠ bL) (fun _ hk => hk)
    exact Kd.R_mono (Kd.R_touch h2 ht (fun k hk e => hk.2 e)) (fun _ hk => hk.1)
  · obtain ⟨cs1, e1⟩ := own_typed g4 k hk
    rw [e, g1] at e1
    injection e1 with e1
    injection e1 with _ e1
    exact absurd e1 (by decide)
  · exact ((Below.refl B w).grown hg hB (fun k hk => (h.rowL.1 k hk).1)).setCell h.b1 _
theorem AlS.move_ {w w1 : World} {B bL bN bI gi cI : Nat} {q : Int} {vL : Value} {acc : List Int} {M M1 : List UInt8} (h : AlS w B bL bN bI gi q cI vL acc M) (ht : Touch (fun j => j = gi) w w1) (hl : M1.length = M.length) (hb : BRow w1 0 (.slice (some ⟨gi, 0, none⟩) M1.length cI) M1) : AlS w1 B bL bN bI gi q cI vL acc M1 := by
  have hty : ∀ (b : Nat) (cs : Array Value) (t : TypeId), w.heap[b]? = some (.cells cs t (0, 0)) → t ≠ 5 → ¬ b = gi := by
    rintro b cs t hb2 ht2 rfl
    obtain ⟨cs1, e1⟩ := own_typed h.rowI b (by simp [Value.ownBlock])
    rw [hb2] at e1
    injection e1 with e1
    injection e1 with _ e1
    exact ht2 e1
  refine ⟨ht.blk h.blkL (hty _ _ _ h.blkL (by decide)), ht.blk h.blkN (hty _ _ _ h.blkN (by decide)), by rw [hl]; exact ht.blk h.blkI (hty _ _ _ h.blkI (by decide)), ?_, hb, h.b1, h.b2, h.b3⟩
  obtain ⟨cs1, e1⟩ := own_typed h.rowI gi (by simp [Value.ownBlock])
  have h2 := Kd.R_types h.rowL e1 (fun q hq => by rw [List.mem_singleton.1 (show q ∈ [3] from hq)]; decide)
  exact Kd.R_mono (Kd.R_touch h2 ht (fun k hk e => hk.2 e)) (fun _ hk => hk.1)
theorem AlS.below {w w1 : World} {B bL bN bI gi cI : Nat} {q : Int} {vL : Value} {acc : List Int} {M : List UInt8} (h : AlS w B bL bN bI gi q cI vL acc M) (hb : Below w.heap.size w w1) : AlS w1 B bL bN bI gi q cI vL acc M :=
  ⟨blk_below h.blkL hb, blk_below h.blkN hb, blk_below h.blkI hb, Kd.R_below h.rowL hb, h.rowI.below hb, h.b1, h.b2, h.b3⟩
theorem plAl4 : Plan (opsOf Try.f46 4) [10] [1, 2, 5, 6, 7, 0, 3, 4, 8, 9, 10] [1, 0, 0, 0, 1, 0, 0, 0, 0, 0, 3] := plan_mk (true, [([], []), ([], []), ([1], [1]), ([0, 2], [0, 2]), ([3], [3]), ([], []), ([5], [5]), ([6], [6]), ([4, 7], [4, 7]), ([0, 2, 0, 1, 2, 3, 4, 5, 6, 7, 8], [0, 2]), ([9, 8, 0, 1, 2, 3, 4, 5, 6, 7, 8], [8, 9])]) [0, 0, 2, 7, 15, 0, 32, 96, 255, 511, 1023] (by kernel_rfl) (by kernel_rfl) (by kernel_rfl)
set_option maxRecDepth 100000 in
theorem alloc1 (w : World) (B bL bN bI gi : Nat) (q : Int) (cI : Nat) (vL : Value) (acc : List Int) (M : List UInt8) (k : Nat) (h : AlS w B bL bN bI gi q cI vL acc M) (hB : B ≤ w.heap.size) (hk : k < M.length * 8) (hm : M.length ≤ 8192) (hq : (acc.length : Int) ≠ q) (ha : acc.length ≤ 100000) :
    Calls Try.prog 46 #[.int .i64 (k : Int), .pointer (some ⟨bL, 0, none⟩), .pointer (some ⟨bN, 0, none⟩), .pointer (some ⟨bI, 0, none⟩)] w fun e w' => e = .returned (.bool true) ∧ (∃ vL', AlS w' B bL bN bI gi q cI vL' (acc ++ [(k : Int)]) (setB M k)) ∧ Below B w w' := by
  have HA := Lib.hid h
  have l0 := blk_cell h.blkL 0
  have n0 := blk_cell h.blkN 0
  have i0 := blk_cell h.blkI 0
  have lf := blk_frozen h.blkL 0
  have d1 : bL ≠ bN := blk_ne h.blkL h.blkN (by decide)
  have d2 : bL ≠ bI := blk_ne h.blkL h.blkI (by decide)
  obtain ⟨A, c, rfl⟩ := Kd.R_slice h.rowL
  have b1 : ((acc.length : Int) == q) = false := beq_eq_false_iff_ne.2 hq
  clear h
  go_enter Try.func46, Try.ntmps46
  go_wp2_with (at_builtin; refine append_one kI (W := w) rfl (.tmp 10) (.tmp 12) 22 3 _ 8 rfl Try.underlying22 i_info rfl (by decide) (by decide) (.slice A acc.length c) acc (k : Int) [.int .i64 (k : Int)] (fun k => B ≤ k ∧ k ≠ bN) rfl (by simp [Act.eval, go_sem]) rfl HA.out.rowL (by omega) ?_; intro A3 c3 w3 hR hg; have HR3 := Lib.hid hR; have HG3 := Lib.hid hg; have x0 := blk_cell (HA.out.grown hg).1 0; have xf := blk_frozen (HA.out.grown hg).1 0; clear hR hg)
  generalize hw4 : World.setCell w3 _ _ = w4
  obtain ⟨ha4, hb4⟩ := HA.out.app hB HR3.out HG3.out
  rw [hw4] at ha4 hb4
  have HA4 := Lib.hid ha4
  have HB4 := Lib.hid hb4
  obtain ⟨p, hp⟩ : ∃ p, k / 8 = p := ⟨_, rfl⟩
  obtain ⟨r, hr⟩ : ∃ r, k % 8 = r := ⟨_, rfl⟩
  have e1 : (k : Int) / 8 = (p : Int) := by omega
  have e2 : (k : Int) % 8 = (r : Int) := by omega
  have e3 : wrap64 (p : Int) = (p : Int) := by unfold wrap64; omega
  have e5 : (k : Int).tmod 8 = (r : Int) := by rw [Int.tmod_eq_emod_of_nonneg (by omega)]; exact e2
  have hpM : p < M.length := by omega
  have hr8 : (r : Int) < 8 := by omega
  have y0 := blk_cell ha4.blkI 0
  have y1 := (own_at ha4.rowI (p : Int) (by omega) (by omega)).1
  have y2 := (own_at ha4.rowI (p : Int) (by omega) (by omega)).2
  rw [rd_u8s M p hpM, Int.toNat_natCast] at y1
  rw [Int.toNat_natCast] at y2
  have HS : Hid (setB M k = M.set p (setb (M[p]) r)) := Lib.hid (by unfold setB; rw [hp, hr, List.getD_eq_getElem?_getD, List.getElem?_eq_getElem hpM]; rfl)
  generalize M[p] = x at *
  have hx0 : 0 ≤ (x.toNat : Int) := by omega
  have hx1 : (x.toNat : Int) < 256 := by have := x.toNat_lt; omega
  clear ha4 hb4 hp hr l0 n0 i0 lf x0 xf hw4 HR3 HG3
  go_wp2_with fail
  refine way_start (fun w' => w'.cell? ⟨bI, 0, none⟩ = some (.slice (some ⟨gi, 0, none⟩) M.length cI) ∧ w'.cell? ⟨gi, p, none⟩ = some (.int .u8 (x.toNat : Int)) ∧ w'.frozen? ⟨gi, p, none⟩ = false) plAl4 (by kernel_rfl) rfl (⟨y0, y1, y2⟩) (fun hHeld => ?_)
  repeat (first
    | (refine way_pure (v := undef) (a' := ?_) plAl4 rfl rfl rfl (fun _ _ _ h => h) (Or.inr ⟨by rfl, rfl⟩) ?_ ?_; rotate_left; (· (simp only [aw]; rfl)))
    | (refine way_pure (v := ?_) (a' := ?_) plAl4 rfl rfl rfl (fun _ _ _ h => h) (Or.inl ⟨by rfl, ?_⟩) ?_ ?_; rotate_left; (· (intro w'; go_simp; with_reducible rfl)); rotate_left; (· (simp only [aw]; rfl)))
    | (refine way_take (v := ?_) (a' := ?_) plAl4 rfl rfl rfl (fun _ _ _ h => h) (Or.inl ⟨by rfl, ?_⟩) hHeld ?_ ?_; rotate_left; (· (rintro w' ⟨s0, s1, s2⟩; go_simp; with_reducible rfl)); rotate_left; (· (simp only [aw]; rfl))))
  rw [setb_or x r (by omega)]
  refine way_last plAl4 rfl rfl rfl (fun K hK => ?_)
  refine skip_ (w1 := ?_) (by rfl) rfl ?_ ?_
  rotate_left
  · go_simp
    rfl
  refine hK.out _ _ ?_
  clear hK K
  refine way_done plAl4 rfl (by decide) ?_
  go_wp2
  go_ret
  refine ⟨rfl, ⟨.slice A3 (acc.length + 1) c3, ?_⟩, ?_⟩
  · rw [HS.out]
    have ha := HA4.out
    have ht : Touch (fun j => j = gi) w4 (w4.setCell ⟨gi, p, none⟩ (.int .u8 ((setb x r).toNat : Int))) := (Touch.refl _ _).put _ _
    have hst := own_store ha.rowI (p : Int) ((setb x r).toNat : Int)
    have hb0 : BRow (w4.setCell ⟨gi, p, none⟩ (.int .u8 ((setb x r).toNat : Int))) 0 (.slice (some ⟨gi, 0, none⟩) (M.set p (setb x r)).length cI) (M.set p (setb x r)) := by
      unfold BRow
      rw [List.length_set, show u8s (M.set p (setb x r)) = (u8s M).set p ((setb x r).toNat : Int) by unfold u8s; rw [List.map_set]]
      exact hst.1
    exact (AlS.move_ HA4.out ht (List.length_set ..) hb0).below (below_drew (Below.refl _ _))
  · exact below_drew (HB4.out.setCell HA4.out.b3 _)
end Go.Proofs.Ythijhmidmhgfaaa

set_option linter.unusedVariables false
set_option linter.unusedSimpArgs false
namespace Go.Proofs.Ythijhmidmhgfaaa
open Go.RowKit Go.Proofs.YthijhmidmhgfaaaW.PrintWords Go.Proofs.YthijhmidmhgfaaaW.PrintLast Go.Maps Go.ChangeMaps
theorem alloc1_no (w : World) (B bL bN bI gi : Nat) (q : Int) (cI : Nat) (vL : Value) (acc : List Int) (M : List UInt8) (k : Nat) (h : AlS w B bL bN bI gi q cI vL acc M) (hq : (acc.length : Int) = q) :
    Calls Try.prog 46 #[.int .i64 (k : Int), .pointer (some ⟨bL, 0, none⟩), .pointer (some ⟨bN, 0, none⟩), .pointer (some ⟨bI, 0, none⟩)] w fun e w' => e = .returned (.bool false) ∧ w = w' := by
  have l0 := blk_cell h.blkL 0
  have n0 := blk_cell h.blkN 0
  obtain ⟨A, c, rfl⟩ := Kd.R_slice h.rowL
  have b1 : ((acc.length : Int) == q) = true := beq_iff_eq.2 hq
  clear h hq
  go_enter Try.func46, Try.ntmps46
  go_wp2
  go_ret
  exact ⟨rfl, rfl⟩
def ints (l : List Nat) : List Int := l.map fun k : Nat => (k : Int)
def setAll (M : List UInt8) (l : List Nat) : List UInt8 := l.foldl setB M
theorem setB_len (M : List UInt8) (k : Nat) : (setB M k).length = M.length := List.length_set ..
theorem setAll_len (l : List Nat) : ∀ M : List UInt8, (setAll M l).length = M.length := by
  induction l with
  | nil => exact fun _ => rfl
  | cons k r ih => exact fun M => (ih (setB M k)).trans (setB_len M k)
theorem setAll_snoc (M : List UInt8) (l : List Nat) (k : Nat) : setAll M (l ++ [k]) = setB (setAll M l) k := by
  unfold setAll
  rw [List.foldl_append]
  rfl
theorem freeL_prefix (M : List UInt8) (lo n N : Nat) (h : n ≤ N) : ∃ r, freeL M lo N = freeL M lo n ++ r := by
  obtain ⟨j, rfl⟩ := Nat.exists_eq_add_of_le h
  unfold freeL
  rw [List.range_add, List.filter_append]
  exact ⟨_, rfl⟩
set_option maxRecDepth 100000 in
theorem freeAlloc (w : World) (bs' bt bm bl bd B bL bN bI gi : Nat) (q : Nat) (cI : Nat) (m : List (Int × List UInt8)) (F : Nat → Prop) (size : Int) (d : Dk) (first : Int) (A : Option Addr) (c : Nat) (M : List UInt8) (h : SpRd w bs' bt bm bl bd m F size d first A M)
    (ha : AlS w B bL bN bI gi (q : Int) cI (.slice none 0 0) [] M) (hB : B ≤ w.heap.size) (v1 : bs' < B) (v2 : bt < B) (v3 : bm < B) (v4 : ∀ k, F k → k < B) (v5 : ∀ ad, A = some ad → ad.block < B) :
    Calls Try.prog 42 #[.pointer (some ⟨bs', 0, none⟩), .slice A M.length c, .func (.func 46) #[] #[.pointer (some ⟨bL, 0, none⟩), .pointer (some ⟨bN, 0, none⟩), .pointer (some ⟨bI, 0, none⟩)]] w fun e w' => e = .returned (.tuple #[]) ∧
      (∃ vL, AlS w' B bL bN bI gi (q : Int) cI vL (ints ((freeL M (first + nBm size d).toNat (nBl size d).toNat).take q)) (setAll M ((freeL M (first + nBm size d).toNat (nBl size d).toNat).take q))) ∧ Below B w w' := by
  obtain ⟨n1, n2, n3, n4, n5, n6⟩ := nBm_range h.ok
  have HX := Lib.hid h
  have HB := Lib.hid (spBlocks w.drew bt bm bl bd m F size d (h.ok.below (below_drew (Below.refl _ _))))
  have c0 := blk_cell h.sp.blk 0
  have c1 := blk_cell h.sp.blk 1
  have hf0 := h.f0
  have hf1 := h.f1
  obtain ⟨lo, hlo⟩ := Int.eq_ofNat_of_zero_le (show 0 ≤ first + nBm size d by omega)
  obtain ⟨N, hN⟩ := Int.eq_ofNat_of_zero_le (show 0 ≤ nBl size d by omega)
  have e4 : wrap64 (first + nBm size d) = (lo : Int) := by unfold wrap64; omega
  have HA := Lib.hid ha
  have q1 : lo ≤ N := by omega
  have q2 : N ≤ 8192 := by omega
  have hml : M.length = 512 * (nBm size d).toNat := h.ml
  have q3 : N ≤ M.length * 8 := by omega
  have q4 : M.length ≤ 8192 := by omega
  have HN1 := Lib.hid (And.intro hlo hN)
  rw [show (first + nBm size d).toNat = lo by omega, show (nBl size d).toNat = N by omega]
  have HMv : ∀ wr, Below B w wr → SpRd wr bs' bt bm bl bd m F size d first A M := fun wr ht => h.touch (G := fun k => B ≤ k) ⟨ht.os, ht.tape, ht.output, ht.size, fun k hk hn => ht.block k (by omega)⟩ (by omega) (by omega) (by omega) (fun k hk e => by have := v4 k hk; omega) (fun ad e hx => by have := v5 ad e; omega)
  have HMV := Lib.hid HMv
  clear h ha hf0 hf1 hlo hN n1 n2 n3 n4 n5 n6 HMv hml
  go_enter Try.func42, Try.ntmps42
  go_wp2_with fail
  refine way_start (fun w' => w'.cell? ⟨bs', 1, none⟩ = some (.int .i64 first) ∧ w'.cell? ⟨bs', 0, none⟩ = some (.pointer (some ⟨bt, 0, none⟩))) plFr0 (by kernel_rfl) rfl (⟨c1, c0⟩) (fun hHeld => ?_)
  repeat (first
    | (refine way_pure (v := undef) (a' := ?_) plFr0 rfl rfl rfl (fun _ _ _ h => h) (Or.inr ⟨by rfl, rfl⟩) ?_ ?_; rotate_left; (· (simp only [aw]; rfl)))
    | (refine way_pure (v := ?_) (a' := ?_) plFr0 rfl rfl rfl (fun _ _ _ h => h) (Or.inl ⟨by rfl, ?_⟩) ?_ ?_; rotate_left; (· (intro w'; go_simp; with_reducible rfl)); rotate_left; (· (simp only [aw]; rfl)))
    | (refine way_take (v := ?_) (a' := ?_) plFr0 rfl rfl rfl (fun _ _ _ h => h) (Or.inl ⟨by rfl, ?_⟩) hHeld ?_ ?_; rotate_left; (· (rintro w' ⟨s0, s1⟩; go_simp; with_reducible rfl)); rotate_left; (· (simp only [aw]; rfl))))
  refine way_one plFr0 rfl rfl rfl (fun K hK => ?_)
  refine goes_ Try.func71 (by kernel_rfl) rfl #[.pointer (some ⟨bt, 0, none⟩)] (by rfl) rfl rfl (by simp only [List.map_toArray, List.map_cons, List.map_nil]; rfl) ?_
  with_reducible refine (HB.out).mono ?_
  rintro e w1 ⟨rfl, hb⟩
  refine ⟨_, rfl, ?_⟩
  have HB1 := Lib.hid hb; clear hb
  refine hK.out _ _ ⟨pw_cell_below HB1.out hHeld.1, pw_cell_below HB1.out hHeld.2⟩ (fun hHeld => ?_)
  clear hK K
  refine way_norm (a' := ?_) ?_ ?_
  rotate_left
  · simp only [aw]
    rfl
  repeat (first
    | (refine way_pure (v := undef) (a' := ?_) plFr0 rfl rfl rfl (fun _ _ _ h => h) (Or.inr ⟨by rfl, rfl⟩) ?_ ?_; rotate_left; (· (simp only [aw]; rfl)))
    | (refine way_pure (v := ?_) (a' := ?_) plFr0 rfl rfl rfl (fun _ _ _ h => h) (Or.inl ⟨by rfl, ?_⟩) ?_ ?_; rotate_left; (· (intro w'; go_simp; with_reducible rfl)); rotate_left; (· (simp only [aw]; rfl)))
    | (refine way_take (v := ?_) (a' := ?_) plFr0 rfl rfl rfl (fun _ _ _ h => h) (Or.inl ⟨by rfl, ?_⟩) hHeld ?_ ?_; rotate_left; (· (rintro w' ⟨s0, s1⟩; go_simp; with_reducible rfl)); rotate_left; (· (simp only [aw]; rfl))))
  rw [e4]
  refine way_done plFr0 rfl (by decide) ?_
  have HB2 : Hid (Below w.heap.size w w1) := Lib.hid ((below_drew (Below.refl _ _)).trans HB1.out)
  go_wp2
  go_loopw [6] (fun i wr => ∃ n : Nat, lo ≤ n ∧ n ≤ N ∧ i = .int .i64 n ∧ Hid ((freeL M lo n).length ≤ q ∧ ∃ vL, AlS wr B bL bN bI gi (q : Int) cI vL (ints (freeL M lo n)) (setAll M (freeL M lo n))) ∧ Hid (Below B w wr)) (fun i _ => N - (intOf i).toNat)
  case atStart => exact ⟨lo, Nat.le_refl _, q1, rfl, Lib.hid (by rw [freeL_self]; exact ⟨Nat.zero_le _, _, HA.out.below HB2.out⟩), Lib.hid (HB2.out.mono hB)⟩
  case round =>
    obtain ⟨n, hn1, hn2, rfl, HC, HT⟩ := hrel
    have hx := HMV.out wr HT.out
    have HX1 := Lib.hid hx
    have x0 := blk_cell hx.sp.blk 0
    have HBk := Lib.hid hx.ok.blocks
    rw [show (d.seen.length : Int) - size = (N : Int) from HN1.out.2] at HBk
    have hBr : B ≤ wr.heap.size := Nat.le_trans hB HT.out.size
    clear hx
    by_cases hlt : n < N
    · have hnN : (n : Int) < (N : Int) := by omega
      have hn8 : (n : Int) < 8192 := by omega
      have HUs := fun w' (hb : Below wr.heap.size wr w') => Lib.hid ((HX1.out.below hb).used c n (by rw [HN1.out.2]; exact hnN) (by rw [HN1.out.1]; omega))
      cases hbit : bitM M n with
      | true =>
        have HS := Lib.hid (freeL_used M lo n hn1 hbit)
        rw [hbit] at HUs
        go_wp2_with (first
          | (go_at_call 25; (with_reducible refine (HBk.out).mono ?_); rintro e w2 ⟨rfl, hb2⟩; have HB3 := Lib.hid hb2; clear hb2)
          | (go_at_call 48; (with_reducible refine ((HUs _ HB3.out).out).mono ?_); rintro e w3 ⟨rfl, hb3⟩; have HB4 := Lib.hid (below_then HB3.out HB3.out.size hb3); clear hb3))
        refine ⟨⟨n + 1, by omega, by omega, by go_num, Lib.hid ?_, Lib.hid (HT.out.trans (HB4.out.mono hBr))⟩, by simp [intOf]; omega⟩
        rw [HS.out]
        obtain ⟨h1, vL, h2⟩ := HC.out
        exact ⟨h1, vL, h2.below HB4.out⟩
      | false =>
        have HS := Lib.hid (freeL_free M lo n hn1 hbit)
        rw [hbit] at HUs
        have hfl : (freeL M lo n).length ≤ n := freeL_len M lo n
        obtain ⟨hle, vL, hal⟩ := HC.out
        have hil : (ints (freeL M lo n)).length = (freeL M lo n).length := List.length_map ..
        have HPf := Lib.hid (freeL_prefix M lo n N hn2)
        by_cases hqq : (freeL M lo n).length = q
        · have HNo := fun w' (hb : Below wr.heap.size wr w') => Lib.hid (alloc1_no w' B bL bN bI gi q cI vL _ _ n (hal.below hb) (by rw [hil, hqq]))
          have HAl := Lib.hid hal
          have HQ := Lib.hid hqq
          clear hal hqq hil hle
          go_wp2_with (first
            | (go_at_call 25; (with_reducible refine (HBk.out).mono ?_); rintro e w2 ⟨rfl, hb2⟩; have HB3 := Lib.hid hb2; clear hb2)
            | (go_at_call 48; (with_reducible refine ((HUs _ HB3.out).out).mono ?_); rintro e w3 ⟨rfl, hb3⟩; have HB4 := Lib.hid (below_then HB3.out HB3.out.size hb3); clear hb3))
          (with_reducible refine (HNo _ HB4.out).out.mono ?_)
          rintro e w4 ⟨rfl, rfl⟩
          go_wp2
          refine bodyPost_ret (v := .tuple #[]) (by simp [results, Try.results42, go_sem]) rfl ?_
          obtain ⟨r, hr⟩ := HPf.out
          have ht : (freeL M lo N).take q = freeL M lo n := by rw [hr, ← HQ.out, List.take_left]
          rw [ht]
          exact ⟨rfl, ⟨vL, HAl.out.below HB4.out⟩, HT.out.trans (HB4.out.mono hBr)⟩
        · have HYe := fun w' (hb : Below wr.heap.size wr w') => Lib.hid (alloc1 w' B bL bN bI gi q cI vL _ _ n (hal.below hb) (Nat.le_trans hBr hb.size) (by rw [setAll_len]; omega) (by rw [setAll_len]; exact q4) (by rw [hil]; omega) (by rw [hil]; omega))
          clear hal hil
          go_wp2_with (first
            | (go_at_call 25; (with_reducible refine (HBk.out).mono ?_); rintro e w2 ⟨rfl, hb2⟩; have HB3 := Lib.hid hb2; clear hb2)
            | (go_at_call 48; (with_reducible refine ((HUs _ HB3.out).out).mono ?_); rintro e w3 ⟨rfl, hb3⟩; have HB4 := Lib.hid (below_then HB3.out HB3.out.size hb3); clear hb3))
          (with_reducible refine (HYe _ HB4.out).out.mono ?_)
          rintro e w4 ⟨rfl, hal4, hb4⟩
          have HA4 := Lib.hid hal4
          have HB5 := Lib.hid hb4
          clear hal4 hb4
          go_wp2
          refine ⟨⟨n + 1, by omega, by omega, by go_num, Lib.hid ?_, Lib.hid ((HT.out.trans (HB4.out.mono hBr)).trans HB5.out)⟩, by simp [intOf]; omega⟩
          rw [HS.out, setAll_snoc, List.length_append]
          refine ⟨by simp; omega, ?_⟩
          obtain ⟨vL', h4⟩ := HA4.out
          exact ⟨vL', by rw [show ints (freeL M lo n ++ [n]) = ints (freeL M lo n) ++ [(n : Int)] from List.map_append ..]; exact h4⟩
    · obtain rfl : n = N := by omega
      go_wp2_with (go_at_call 25; (with_reducible refine (HBk.out).mono ?_); rintro e w2 ⟨rfl, hb2⟩; have HB3 := Lib.hid hb2; clear hb2)
      go_end0
      obtain ⟨hle, vL, hal⟩ := HC.out
      refine ⟨rfl, ⟨vL, ?_⟩, HT.out.trans (HB3.out.mono hBr)⟩
      rw [List.take_of_length_le hle]
      exact hal.below HB3.out
end Go.Proofs.Ythijhmidmhgfaaa

set_option linter.unusedVariables false
set_option linter.unusedSimpArgs false
namespace Go.Proofs.Ythijhmidmhgfaaa
open Go.RowKit Go.Proofs.YthijhmidmhgfaaaW.PrintWords Go.Proofs.YthijhmidmhgfaaaW.PrintLast Go.Maps Go.ChangeMaps
theorem BRow.form {w : World} {base : Nat} {v : Value} {l : List UInt8} (h : BRow w base v l) (hp : 0 < l.length) : ∃ g c, v = .slice (some ⟨g, 0, none⟩) l.length c ∧ base ≤ g ∧ g < w.heap.size := by
  rcases h.2 with ⟨rfl, h1⟩ | ⟨g, cap, cur, rfl, hb, hh, _⟩
  · rw [h1] at hp; exact absurd hp (Nat.lt_irrefl 0)
  · exact ⟨g, cap, rfl, hb, (Array.getElem?_eq_some_iff.1 hh).1⟩
/-- the transaction's writes behind an Alloc of k blocks -/
def takenM (size : Int) (d : Dk) (m : List (Int × List UInt8)) (first : Int) (l : List Nat) : List (Int × List UInt8) := layM m first (mapOf size d m first) (setAll (mapOf size d m first) l) (nBm size d).toNat
theorem SpOk.touch {w w1 : World} {bs' bt bm bl bd : Nat} {m m1 : List (Int × List UInt8)} {F : Nat → Prop} {size : Int} {d : Dk} {first : Int} (h : SpOk w bs' bt bm bl bd m F size d first) (ht : Touch (fun k => k = bt ∨ k = bm) w w1) (hk : TxOk w1 bt bm bl bd m1 F size d) : SpOk w1 bs' bt bm bl bd m1 F size d first :=
  ⟨h.sp.touch ht (fun hx => by rcases hx with hx | hx; exact h.st hx; exact h.sm hx), hk, h.f0, h.f1, h.ns, h.st, h.sm⟩
def AllocPost (w : World) (bs' bt bm bl bd : Nat) (m : List (Int × List UInt8)) (F : Nat → Prop) (size : Int) (d : Dk) (first : Int) (q : Nat) (e : Ending) (w' : World) : Prop :=
  ∃ A c, e = .returned (.tuple #[.slice A q c, .int .i64 0]) ∧ kI.R 3 w' 0 (fun k => w.heap.size ≤ k ∧ k < w'.heap.size) (.slice A q c) (ints ((freeOf size d m first).take q)) ∧ SpOk w' bs' bt bm bl bd (takenM size d m first ((freeOf size d m first).take q)) F size d first ∧ Touch (fun k => k = bt ∨ k = bm) w w'
set_option maxRecDepth 100000 in
theorem spAlloc (w : World) (bs' bt bm bl bd : Nat) (m : List (Int × List UInt8)) (F : Nat → Prop) (size : Int) (d : Dk) (first : Int) (q : Nat) (h : SpOk w bs' bt bm bl bd m F size d first) (hF : ∀ k, F k → k < w.heap.size) (hq : q ≤ (freeOf size d m first).length) :
    Calls Try.prog 14 #[.pointer (some ⟨bs', 0, none⟩), .int .i64 (q : Int)] w (AllocPost w bs' bt bm bl bd m F size d first q) := by
  have h1 := h.below (below_alloc (Below.refl _ _) (.cells #[.int .i64 (q : Int)] 3 (0, 0)))
  have HX1 := Lib.hid h1
  have HX := Lib.hid h
  have HO := Lib.hid (spOver _ bt bm bl bd m F size d h1.ok)
  have HM := fun w' (hb : Below (w.alloc (.cells #[.int .i64 (q : Int)] 3 (0, 0))).heap.size (w.alloc (.cells #[.int .i64 (q : Int)] 3 (0, 0))) w') => Lib.hid (spMap w' bs' bt bm bl bd m F size d first (h1.below hb))
  have hbN : (w.alloc (.cells #[.int .i64 (q : Int)] 3 (0, 0))).heap[w.heap.size]? = some (.cells #[.int .i64 (q : Int)] 3 (0, 0)) := blk_new w _
  have HN := Lib.hid hbN
  have hq2 : q ≤ 8192 := by
    have a1 := freeL_len (mapOf size d m first) (first + nBm size d).toNat (nBl size d).toNat
    have a2 := (nBm_range h.ok).2.2.2.1
    unfold freeOf at hq
    omega
  have x0 := blk_cell h1.sp.blk 0
  have b0 : decide ((q : Int) < 0) = false := decide_eq_false (by omega)
  obtain ⟨l1, l2, l3⟩ := h.lt
  have hml := mapOf_len h
  have hnr := nBm_range h.ok
  have HML := Lib.hid hml
  clear hml
  have HF := Lib.hid hF
  have HQ := Lib.hid hq
  generalize hwa : w.alloc (.cells #[.int .i64 (q : Int)] 3 (0, 0)) = wa at *
  have hsa : wa.heap.size = w.heap.size + 1 := by rw [← hwa]; simp [go_sem]
  have HWA := Lib.hid (show Below w.heap.size w wa from by rw [← hwa]; exact below_alloc (Below.refl _ _) _)
  clear h h1 hF hq hbN
  go_enter Try.func14, Try.ntmps14
  go_wp2_with fail
  (with_reducible refine HO.out.mono ?_)
  rintro e w1 ⟨rfl, hb1⟩
  have HB1 := Lib.hid hb1
  clear hb1 hwa
  have n1 := blk_cell (blk_below HN.out HB1.out) 0
  go_wp2_with fail
  (with_reducible refine (HM _ HB1.out).out.mono ?_)
  rintro e w2 ⟨v, rfl, hr2, hb2⟩
  obtain ⟨g, c, rfl, hg1, hg2⟩ := hr2.form (by rw [HML.out]; omega)
  have HB2 := Lib.hid (below_then HB1.out HB1.out.size hb2)
  have HR2 := Lib.hid hr2
  clear hb2 hr2 HM
  have hs2 : w.heap.size + 1 ≤ w2.heap.size := by rw [← hsa]; exact HB2.out.size
  obtain ⟨A', c', hv', hrd⟩ := HR2.out.reads
  obtain ⟨rfl, rfl⟩ : A' = some ⟨g, 0, none⟩ ∧ c = c' := by
    injection hv' with e1 e2 e3
    exact ⟨e1.symm, e3⟩
  clear hv'
  have HRD := Lib.hid hrd
  have HC := Lib.hid (clone_u8 (w2.alloc (.cells #[.slice none 0 0] 22 (0, 0))) (some ⟨g, 0, none⟩) c (mapOf size d m first) (ReadsInt.below hrd (below_alloc (Below.refl _ _) _)) (by rw [HML.out]; omega))
  clear hrd
  go_wp2_with fail
  (with_reducible refine HC.out.mono ?_)
  rintro e w3 ⟨v3, rfl, hr3, hb3⟩
  obtain ⟨g3, c3, rfl, hg3, hg4⟩ := hr3.form (by rw [HML.out]; omega)
  have HB3 := Lib.hid hb3
  have HR3 := Lib.hid hr3
  have hs3 : w2.heap.size + 1 ≤ w3.heap.size := by have := hb3.size; simp [go_sem] at this; omega
  have hg3' : w2.heap.size + 1 ≤ g3 := by simp [go_sem] at hg3; omega
  clear hb3 hr3 hg3
  have HW3 : Hid (Below w2.heap.size w2 w3) := Lib.hid ((below_alloc (Below.refl _ _) _).trans (HB3.out.mono (by simp [go_sem])))
  have HW4 : Hid (∀ o, Below w2.heap.size w2 (w3.alloc o)) := Lib.hid (fun o => below_then HW3.out HW3.out.size (below_alloc (Below.refl _ _) o))
  have HAl : Hid (∀ o, o = Obj.cells #[.slice (some ⟨g3, 0, none⟩) (mapOf size d m first).length c3] 40 (0, 0) → AlS (w3.alloc o) w2.heap.size w2.heap.size w.heap.size w3.heap.size g3 (q : Int) c3 (.slice none 0 0) [] (mapOf size d m first)) := Lib.hid (fun o e => by
    subst e
    refine ⟨blk_alloc (blk_below (blk_new w2 _) HB3.out) _, blk_below (blk_below HN.out HB2.out) (HW4.out _), blk_new w3 _, Kd.R_nil _ _ _ _ _, ?_, Nat.le_refl _, by omega, by omega⟩
    exact (own_weaken HR3.out (Nat.zero_le _)).alloc _)
  have HFr := fun o (e : o = Obj.cells #[.slice (some ⟨g3, 0, none⟩) (mapOf size d m first).length c3] 40 (0, 0)) => Lib.hid (freeAlloc (w3.alloc o) bs' bt bm bl bd w2.heap.size w2.heap.size w.heap.size w3.heap.size g3 q c3 m F size d first (some ⟨g, 0, none⟩) c (mapOf size d m first)
    (by have hx := HX1.out.below (HB2.out.trans ((HW4.out o).mono HB2.out.size)); exact ⟨hx.sp, hx.ok, hx.f0, hx.f1, ReadsInt.below HRD.out (HW4.out o), HML.out⟩) (HAl.out o e) (HW4.out o).size (by omega) (by omega) (by omega) (fun k hk => by have := HF.out k hk; omega) (fun ad e => by cases e; exact hg2))
  go_wp2_with fail
  (with_reducible refine (HFr _ rfl).out.mono ?_)
  rintro e w5 ⟨rfl, ⟨vL, hal5⟩, hb5⟩
  have hfl : (ints ((freeOf size d m first).take q)).length = q := by
    unfold ints
    rw [List.length_map, List.length_take]
    have := HQ.out
    omega
  have hal6 : AlS w5 w2.heap.size w2.heap.size w.heap.size w3.heap.size g3 (q : Int) c3 vL (ints ((freeOf size d m first).take q)) (setAll (mapOf size d m first) ((freeOf size d m first).take q)) := hal5
  have HTk : Hid (takenM size d m first ((freeOf size d m first).take q) = layM m first (mapOf size d m first) (setAll (mapOf size d m first) ((freeOf size d m first).take q)) (nBm size d).toNat) := Lib.hid rfl
  have hsl := setAll_len ((freeOf size d m first).take q) (mapOf size d m first)
  generalize hacc : ints ((freeOf size d m first).take q) = acc at *
  generalize hM2 : setAll (mapOf size d m first) ((freeOf size d m first).take q) = M2 at *
  have HAcc := Lib.hid hacc
  have HSL := Lib.hid hsl
  have HW5 : Hid (Below w2.heap.size w2 w5) := Lib.hid ((HW4.out _).trans hb5)
  obtain ⟨AL, cL, rfl⟩ := Kd.R_slice hal6.rowL
  rw [hfl] at hal6
  have HA6 := Lib.hid hal6
  have y0 := blk_cell hal6.blkL 0
  have y1 := blk_cell hal6.blkN 0
  have y2 := blk_cell hal6.blkI 0
  have z0 : decide ((q : Int) < (q : Int)) = false := by simp
  have hx5 := HX1.out.below (HB2.out.trans (HW5.out.mono HB2.out.size))
  obtain ⟨A2', c2', hv2', hrd2⟩ := BRow.reads hal6.rowI
  obtain ⟨rfl, rfl⟩ : A2' = some ⟨g3, 0, none⟩ ∧ c3 = c2' := by
    injection hv2' with e1 e2 e3
    exact ⟨e1.symm, e3⟩
  have hLy := spLay w5 bs' bt bm bl bd m F size d first g c g3 c3 (mapOf size d m first) M2 hx5.sp hx5.ok hx5.f0 hx5.f1 (ReadsInt.below HRD.out HW5.out) hrd2 HML.out (by rw [hsl, HML.out]) (HR2.out.cap).2 (hal6.rowI.cap).2 (by have := HB1.out.size; omega) (by omega) ⟨hx5.st, hx5.sm⟩
  have HLy := Lib.hid hLy
  have HX5 := Lib.hid hx5
  clear hLy hx5 hal5 hal6 hacc hM2 hsl hv2' hrd2 hfl hb5 HAl HFr
  go_wp2_with fail
  (with_reducible refine HLy.out.mono ?_)
  rintro e w6 ⟨rfl, hk6, ht6⟩
  have HK6 := Lib.hid hk6
  have HT6 := Lib.hid ht6
  have hb6 := ht6.blk HA6.out.blkL (fun hx => by rcases hx with hx | hx <;> omega)
  have u0 := blk_cell hb6 0
  clear hk6 ht6 hb6
  go_wp2
  go_ret2
  have htw : Touch (fun k => k = bt ∨ k = bm) w w6 := (Touch.of (HWA.out.trans ((HB2.out.trans (HW5.out.mono HB2.out.size)).mono (by omega)))).same HT6.out
  refine ⟨AL, cL, rfl, ?_, ?_, htw⟩
  · rw [HAcc.out]
    have h2 := Kd.R_touch HA6.out.rowL HT6.out (fun k hk hx => by rcases hx with hx | hx <;> omega)
    exact Kd.R_mono (Kd.R_bound h2) (fun k hk => ⟨by omega, hk.2.2.1⟩)
  · rw [HTk.out]
    exact HX5.out.touch HT6.out HK6.out
end Go.Proofs.Ythijhmidmhgfaaa

set_option linter.unusedVariables false
set_option linter.unusedSimpArgs false
namespace Go.Proofs.Ythijhmidmhgfaaa
open Go.RowKit Go.Proofs.YthijhmidmhgfaaaW.PrintWords Go.Proofs.YthijhmidmhgfaaaW.PrintLast Go.Maps Go.ChangeMaps
/-- Used -/
def usedV (size : Int) (d : Dk) (m : List (Int × List UInt8)) (first : Int) (n : Int) : Bool := decide (0 ≤ n) && (decide (n < nBl size d) && (decide (n < first + nBm size d) || bitM (mapOf size d m first) n.toNat))
set_option maxRecDepth 100000 in
theorem spUsedQ (w : World) (bs' bt bm bl bd : Nat) (m : List (Int × List UInt8)) (F : Nat → Prop) (size : Int) (d : Dk) (first : Int) (n : Int) (h : SpOk w bs' bt bm bl bd m F size d first) :
    Calls Try.prog 15 #[.pointer (some ⟨bs', 0, none⟩), .int .i64 n] w fun e w' => e = .returned (.bool (usedV size d m first n)) ∧ Below w.heap.size w w' := by
  have HM := Lib.hid (spMap w bs' bt bm bl bd m F size d first h)
  have hml := mapOf_len h
  have hnr := nBm_range h.ok
  have hf0 := h.f0
  have hf1 := h.f1
  have HX := Lib.hid h
  have HML := Lib.hid hml
  by_cases q0 : 0 ≤ n
  · have b0 : decide (0 ≤ n) = true := decide_eq_true q0
    obtain ⟨k, rfl⟩ := Int.eq_ofNat_of_zero_le q0
    have HV : Hid (usedV size d m first k = (decide ((k : Int) < nBl size d) && (decide ((k : Int) < first + nBm size d) || bitM (mapOf size d m first) k))) := Lib.hid (by unfold usedV; rw [b0, Int.toNat_natCast]; rfl)
    by_cases q1 : (k : Int) < nBl size d
    · have b1 : decide ((k : Int) < (d.seen.length : Int) - size) = true := decide_eq_true q1
      rw [decide_eq_true q1] at HV
      clear h
      go_enter Try.func15, Try.ntmps15
      go_wp2_with fail
      (with_reducible refine HM.out.mono ?_)
      rintro e w1 ⟨v, rfl, hr1, hb1⟩
      obtain ⟨A, c, rfl, hrd⟩ := hr1.reads
      have hx1 := HX.out.below hb1
      have HB1 := Lib.hid hb1
      have x0 := blk_cell hx1.sp.blk 0
      have HBk := Lib.hid hx1.ok.blocks
      have HU := fun w' (hb : Below w1.heap.size w1 w') => Lib.hid (spUsed w' bs' bt bm bl bd m F size d first k A c (mapOf size d m first) (hx1.below hb).sp (hx1.below hb).ok hf0 (by omega) (ReadsInt.below hrd hb) (by rw [HML.out]; omega) (by rw [HML.out]; omega))
      clear hx1 hrd hr1 hb1 hml
      go_wp2_with (first
        | (go_at_call 25; (with_reducible refine (HBk.out).mono ?_); rintro e w2 ⟨rfl, hb2⟩; have HB2 := Lib.hid hb2; clear hb2)
        | (go_at_call 48; (with_reducible refine ((HU _ HB2.out).out).mono ?_); rintro e w3 ⟨rfl, hb3⟩; have HB3 := Lib.hid hb3; clear hb3))
      go_ret
      refine ⟨?_, below_then HB1.out HB1.out.size (below_then HB2.out HB2.out.size HB3.out)⟩
      rw [HV.out]
      rfl
    · have b1 : decide ((k : Int) < (d.seen.length : Int) - size) = false := decide_eq_false q1
      rw [decide_eq_false q1] at HV
      clear h
      go_enter Try.func15, Try.ntmps15
      go_wp2_with fail
      (with_reducible refine HM.out.mono ?_)
      rintro e w1 ⟨v, rfl, hr1, hb1⟩
      obtain ⟨A, c, rfl, hrd⟩ := hr1.reads
      have hx1 := HX.out.below hb1
      have HB1 := Lib.hid hb1
      have x0 := blk_cell hx1.sp.blk 0
      have HBk := Lib.hid hx1.ok.blocks
      clear hx1 hrd hr1 hb1 hml
      go_wp2_with (go_at_call 25; (with_reducible refine (HBk.out).mono ?_); rintro e w2 ⟨rfl, hb2⟩; have HB2 := Lib.hid hb2; clear hb2)
      go_ret
      refine ⟨?_, below_then HB1.out HB1.out.size HB2.out⟩
      rw [HV.out]
      rfl
  · have b0 : decide (0 ≤ n) = false := decide_eq_false q0
    have HV : Hid (usedV size d m first n = false) := Lib.hid (by unfold usedV; rw [b0]; rfl)
    clear h
    go_enter Try.func15, Try.ntmps15
    go_wp2_with fail
    (with_reducible refine HM.out.mono ?_)
    rintro e w1 ⟨v, rfl, hr1, hb1⟩
    obtain ⟨A, c, rfl, hrd⟩ := hr1.reads
    have HB1 := Lib.hid hb1
    clear hrd hr1 hb1 hml
    go_wp2
    go_ret
    refine ⟨?_, HB1.out⟩
    rw [HV.out]
    rfl
end Go.Proofs.Ythijhmidmhgfaaa

set_option linter.unusedVariables false
set_option linter.unusedSimpArgs false
namespace Go.Proofs.Ythijhmidmhgfaaa
open Go.RowKit Go.Proofs.YthijhmidmhgfaaaW.PrintWords Go.Proofs.YthijhmidmhgfaaaW.PrintLast Go.Maps Go.ChangeMaps
def clrb (x : UInt8) (r : Nat) : UInt8 := UInt8.ofNat (x.toNat &&& (255 - 2 ^ r))
def clrB (M : List UInt8) (k : Nat) : List UInt8 := M.set (k / 8) (clrb (M.getD (k / 8) 0) (k % 8))
theorem clrb_fin : ∀ x : Fin 256, ∀ r : Fin 8, bits .andNot .u8 ((x.val : Nat) : Int) (IntKind.u8.wrap (2 ^ r.val)) = (((UInt8.ofNat (x.val &&& (255 - 2 ^ r.val))).toNat : Nat) : Int) := by decide +kernel
theorem clrb_or (x : UInt8) (r : Nat) (h : r < 8) : bits .andNot .u8 (x.toNat : Int) (IntKind.u8.wrap (2 ^ r)) = ((clrb x r).toNat : Int) := clrb_fin ⟨x.toNat, x.toNat_lt⟩ ⟨r, h⟩
theorem clrb_bit_fin : ∀ x : Fin 256, ∀ r : Fin 8, ∀ j : Fin 8, (UInt8.ofNat (x.val &&& (255 - 2 ^ r.val))).toNat.testBit j.val = (!decide (j = r) && x.val.testBit j.val) := by decide +kernel
theorem clrb_bit (x : UInt8) (r j : Nat) (h : r < 8) (hj : j < 8) : (clrb x r).toNat.testBit j = (!decide (j = r) && x.toNat.testBit j) := by
  have := clrb_bit_fin ⟨x.toNat, x.toNat_lt⟩ ⟨r, h⟩ ⟨j, hj⟩
  simpa [clrb] using this
theorem clrB_len (M : List UInt8) (k : Nat) : (clrB M k).length = M.length := List.length_set ..
/-- may this block be given back? -/
def mayB (lo N : Int) (M : List UInt8) (n : Int) : Bool := decide (lo ≤ n) && (decide (n < N) && bitM M n.toNat)
/-- the bitmap with blocks given back; none: one may not be -/
def freeBits (lo N : Int) (M : List UInt8) : List Int → Option (List UInt8)
  | [] => some M
  | n :: r => if mayB lo N M n then freeBits lo N (clrB M n.toNat) r else none
theorem freeBits_snoc (lo N : Int) (l : List Int) (n : Int) : ∀ M M1 : List UInt8, freeBits lo N M l = some M1 → freeBits lo N M (l ++ [n]) = if mayB lo N M1 n then some (clrB M1 n.toNat) else none := by
  induction l with
  | nil =>
    intro M M1 h
    injection h with h
    subst h
    rfl
  | cons x r ih =>
    intro M M1 h
    rw [freeBits] at h
    rw [List.cons_append, freeBits]
    cases q : mayB lo N M x with
    | true => rw [q, if_pos rfl] at h; rw [if_pos rfl]; exact ih _ _ h
    | false => rw [q, if_neg (by simp)] at h; cases h
theorem freeBits_none (lo N : Int) (a b : List Int) (n : Int) (M M1 : List UInt8) (h : freeBits lo N M a = some M1) (hn : mayB lo N M1 n = false) : freeBits lo N M (a ++ n :: b) = none := by
  induction a generalizing M with
  | nil =>
    injection h with h
    subst h
    rw [List.nil_append, freeBits, hn]
    rfl
  | cons x r ih =>
    rw [freeBits] at h
    rw [List.cons_append, freeBits]
    cases q : mayB lo N M x with
    | true => rw [q, if_pos rfl] at h; rw [if_pos rfl]; exact ih _ h
    | false => rw [q, if_neg (by simp)] at h; cases h
theorem freeBits_len (lo N : Int) : ∀ (l : List Int) (M M1 : List UInt8), freeBits lo N M l = some M1 → M1.length = M.length
  | [], M, M1, h => by injection h with h; rw [h]
  | n :: r, M, M1, h => by
    rw [freeBits] at h
    cases q : mayB lo N M n with
    | true => rw [q, if_pos rfl] at h; exact (freeBits_len lo N r _ _ h).trans (clrB_len _ _)
    | false => rw [q, if_neg (by simp)] at h; cases h
def freeR (size : Int) (d : Dk) (m : List (Int × List UInt8)) (first : Int) (l : List Int) : Option (List UInt8) := freeBits (first + nBm size d) (nBl size d) (mapOf size d m first) l
def FreePost (w : World) (bs' bt bm bl bd : Nat) (m : List (Int × List UInt8)) (F : Nat → Prop) (size : Int) (d : Dk) (first : Int) (l : List Int) (e : Ending) (w' : World) : Prop :=
  match freeR size d m first l with
  | none => e = .returned (.int .i64 1) ∧ Below w.heap.size w w'
  | some M => e = .returned (.int .i64 0) ∧ SpOk w' bs' bt bm bl bd (layM m first (mapOf size d m first) M (nBm size d).toNat) F size d first ∧ Touch (fun k => k = bt ∨ k = bm) w w'
theorem byteIdx (j p r : Nat) (hp : j / 8 = p) (hr : j % 8 = r) (h : j < 8192) : (j : Int) / 8 = (p : Int) ∧ (j : Int) % 8 = (r : Int) ∧ wrap64 (p : Int) = (p : Int) ∧ (j : Int).tmod 8 = (r : Int) := by
  have e2 : (j : Int) % 8 = (r : Int) := by omega
  refine ⟨by omega, e2, by unfold wrap64; omega, ?_⟩
  rw [Int.tmod_eq_emod_of_nonneg (by omega)]
  exact e2
theorem kI_at {w : World} {A : Option Addr} {n : Nat} {xs : List Int} (h : kI.C w A n xs) (i : Int) (h0 : 0 ≤ i) (h1 : i < n) : ∃ ad, A = some ad ∧ w.cell? (ad.add i.toNat) = some (.int .i64 (Go.Proofs.YthijhmidmhgfaaaW.PrintWords.rd xs i)) := Kd.at_int h i h0 h1
theorem rd_get (l : List Int) (k : Nat) (h : k < l.length) : Go.Proofs.YthijhmidmhgfaaaW.PrintWords.rd l (k : Int) = l[k] := by
  unfold Go.Proofs.YthijhmidmhgfaaaW.PrintWords.rd
  rw [Int.toNat_natCast, List.getD_eq_getElem?_getD, List.getElem?_eq_getElem h]
  rfl
theorem plFre : Plan (opsOf Try.f16 12) [10] [0, 1, 2, 3, 5, 6, 7, 4, 8, 9, 10] [0, 0, 0, 0, 1, 0, 0, 0, 0, 0, 3] := plan_mk (true, [([], []), ([], []), ([1], [1]), ([0, 2], [0, 2]), ([3], [3]), ([], []), ([5], [5]), ([6], [6]), ([4, 7], [4, 7]), ([0, 2, 0, 1, 2, 3, 4, 5, 6, 7, 8], [0, 2]), ([9, 8, 0, 1, 2, 3, 4, 5, 6, 7, 8], [8, 9])]) [0, 0, 2, 7, 15, 0, 32, 96, 255, 511, 1023] (by kernel_rfl) (by kernel_rfl) (by kernel_rfl)
set_option maxRecDepth 100000 in
theorem spFree (w : World) (bs' bt bm bl bd : Nat) (m : List (Int × List UInt8)) (F : Nat → Prop) (size : Int) (d : Dk) (first : Int) (l : List Int) (A : Option Addr) (c : Nat) (h : SpOk w bs' bt bm bl bd m F size d first) (hF : ∀ k, F k → k < w.heap.size) (hA : kI.C w A l.length l) :
    Calls Try.prog 16 #[.pointer (some ⟨bs', 0, none⟩), .slice A l.length c] w (FreePost w bs' bt bm bl bd m F size d first l) := by
  have HX := Lib.hid h
  have HO := Lib.hid (spOver _ bt bm bl bd m F size d h.ok)
  have HM := fun w' (hb : Below w.heap.size w w') => Lib.hid (spMap w' bs' bt bm bl bd m F size d first (h.below hb))
  have x0 := blk_cell h.sp.blk 0
  obtain ⟨l1, l2, l3⟩ := h.lt
  have hml := mapOf_len h
  have hnr := nBm_range h.ok
  have HML := Lib.hid hml
  have hf0 := h.f0
  have hf1 := h.f1
  have HF := Lib.hid hF
  have HA := Lib.hid hA
  have hlm := hA.2.1
  clear hml h hF hA
  go_enter Try.func16, Try.ntmps16
  go_wp2_with fail
  (with_reducible refine HO.out.mono ?_)
  rintro e w1 ⟨rfl, hb1⟩
  have HB1 := Lib.hid hb1
  clear hb1
  go_wp2_with fail
  (with_reducible refine (HM _ HB1.out).out.mono ?_)
  rintro e w2 ⟨v, rfl, hr2, hb2⟩
  obtain ⟨g, c1, rfl, hg1, hg2⟩ := hr2.form (by rw [HML.out]; omega)
  have HB2 := Lib.hid (below_then HB1.out HB1.out.size hb2)
  have HR2 := Lib.hid hr2
  clear hb2 hr2 HM
  obtain ⟨A', c', hv', hrd⟩ := HR2.out.reads
  obtain ⟨rfl, rfl⟩ : A' = some ⟨g, 0, none⟩ ∧ c1 = c' := by
    injection hv' with e1 e2 e3
    exact ⟨e1.symm, e3⟩
  clear hv'
  have HRD := Lib.hid hrd
  have HC := Lib.hid (clone_u8 w2 (some ⟨g, 0, none⟩) c1 (mapOf size d m first) hrd (by rw [HML.out]; omega))
  clear hrd
  go_wp2_with fail
  (with_reducible refine HC.out.mono ?_)
  rintro e w3 ⟨v3, rfl, hr3, hb3⟩
  obtain ⟨g3, c3, rfl, hg3, hg4⟩ := hr3.form (by rw [HML.out]; omega)
  have HB3 := Lib.hid hb3
  have HR3 := Lib.hid (own_weaken hr3 (Nat.zero_le _))
  have hs2 : w.heap.size ≤ w2.heap.size := HB2.out.size
  have HG3 := Lib.hid hg3
  clear hb3 hr3 hg3
  have HM0 : Hid ((mapOf size d m first).length = 512 * (nBm size d).toNat) := HML
  have hf8 : first ≤ 8192 := by omega
  generalize hlo : first + nBm size d = lo at *
  have hN : (d.seen.length : Int) - size = nBl size d := rfl
  have HRW := Lib.hid (And.intro hlo hN)
  have HFR : Hid (freeR size d m first l = freeBits lo (nBl size d) (mapOf size d m first) l) := Lib.hid (by unfold freeR; rw [hlo])
  have hlo0 : 0 ≤ lo := by omega
  clear hlo
  have FN : ∀ (wr : World), freeR size d m first l = none → Below w2.heap.size w2 wr → FreePost w bs' bt bm bl bd m F size d first l (.returned (.int .i64 1)) wr := fun wr hn hb => by
    unfold FreePost
    rw [hn]
    exact ⟨rfl, HB2.out.trans (hb.mono hs2)⟩
  have HFN := Lib.hid FN
  clear FN
  go_wp2
  go_loopw [27] (fun i wr => ∃ k : Nat, k ≤ l.length ∧ i = .int .i64 k ∧ Hid (∃ M1, freeBits lo (nBl size d) (mapOf size d m first) (l.take k) = some M1 ∧ BRow wr 0 (.slice (some ⟨g3, 0, none⟩) M1.length c3) M1) ∧ Hid (Below w2.heap.size w2 wr)) (fun i _ => l.length - (intOf i).toNat)
  case atStart => exact ⟨0, Nat.zero_le _, rfl, Lib.hid ⟨_, rfl, HR3.out⟩, HB3⟩
  case round =>
    obtain ⟨k, hk, rfl, HC1, HT⟩ := hrel
    obtain ⟨M1, hM1, hR1⟩ := HC1.out
    have hlen := freeBits_len _ _ _ _ _ hM1
    rw [hlen] at hR1
    have HR1 := Lib.hid hR1
    have HM1 := Lib.hid hM1
    have HLE := Lib.hid hlen
    have hx := HX.out.below (HB2.out.trans (HT.out.mono hs2))
    have HX1 := Lib.hid hx
    have x1 := blk_cell hx.sp.blk 0
    have HBk := Lib.hid hx.ok.blocks
    rw [hN] at HBk
    clear hR1 hM1 hlen HC1 hx
    by_cases hlt : k < l.length
    · have hC := Kd.C_below HA.out (HB2.out.trans (HT.out.mono hs2))
      obtain ⟨ad, rfl, p0⟩ := kI_at hC (k : Int) (by omega) (by omega)
      rw [rd_get l k hlt, Int.toNat_natCast] at p0
      have HTk := Lib.hid (show l.take (k + 1) = l.take k ++ [l[k]] from List.take_succ_eq_append_getElem hlt)
      have HTd := Lib.hid (show l = l.take k ++ (l[k] :: l.drop (k + 1)) by rw [List.getElem_cons_drop, List.take_append_drop])
      generalize l[k] = n at *
      have HNo : Hid (mayB lo (nBl size d) M1 n = false → freeR size d m first l = none) := Lib.hid (fun hq => by rw [HFR.out, HTd.out]; exact freeBits_none _ _ _ _ _ _ _ HM1.out hq)
      clear hC
      by_cases g0 : n < 0
      · have b0 : decide (n < 0) = true := decide_eq_true g0
        have HE := Lib.hid (HNo.out (by unfold mayB; rw [decide_eq_false (by omega)]; rfl))
        go_wp2
        go_ret
        exact HFN.out wr HE.out HT.out
      · have b0 : decide (n < 0) = false := decide_eq_false g0
        by_cases g1 : nBl size d ≤ n
        · have b1 : decide (nBl size d ≤ n) = true := decide_eq_true g1
          have HE := Lib.hid (HNo.out (by unfold mayB; rw [decide_eq_false (show ¬ n < nBl size d by omega), Bool.false_and, Bool.and_false]))
          go_wp2_with (go_at_call 25; (with_reducible refine (HBk.out).mono ?_); rintro e w4 ⟨rfl, hb4⟩; have HB4 := Lib.hid hb4; clear hb4)
          go_ret
          exact HFN.out _ HE.out (HT.out.trans (HB4.out.mono HT.out.size))
        · have b1 : decide (nBl size d ≤ n) = false := decide_eq_false g1
          have HKp := fun w' (hb : Below wr.heap.size wr w') => Lib.hid (spKept w' bs' bt bm bl bd m F size d first n (HX1.out.below hb).sp (HX1.out.below hb).ok hf0 (by omega))
          rw [HRW.out.1] at HKp
          by_cases g2 : n < lo
          · rw [decide_eq_true g2] at HKp
            have HE := Lib.hid (HNo.out (by unfold mayB; rw [decide_eq_false (show ¬ lo ≤ n by omega)]; rfl))
            go_wp2_with (first
              | (go_at_call 25; (with_reducible refine (HBk.out).mono ?_); rintro e w4 ⟨rfl, hb4⟩; have HB4 := Lib.hid hb4; clear hb4)
              | (go_at_call 49; (with_reducible refine ((HKp _ HB4.out).out).mono ?_); rintro e w5 ⟨rfl, hb5⟩; have HB5 := Lib.hid hb5; clear hb5))
            go_ret
            exact HFN.out _ HE.out (HT.out.trans ((below_then HB4.out HB4.out.size HB5.out).mono HT.out.size))
          · rw [decide_eq_false g2] at HKp
            obtain ⟨j, rfl⟩ := Int.eq_ofNat_of_zero_le (show 0 ≤ n by omega)
            obtain ⟨A4, c4, hv4, hrd4⟩ := BRow.reads (show BRow wr 0 (.slice (some ⟨g3, 0, none⟩) M1.length c3) M1 by rw [HLE.out]; exact HR1.out)
            obtain ⟨rfl, rfl⟩ : A4 = some ⟨g3, 0, none⟩ ∧ c3 = c4 := by
              injection hv4 with e1 e2 e3
              exact ⟨e1.symm, e3⟩
            have HUs := fun w' (hb : Below wr.heap.size wr w') => Lib.hid (spUsed w' bs' bt bm bl bd m F size d first j (some ⟨g3, 0, none⟩) c3 M1 (HX1.out.below hb).sp (HX1.out.below hb).ok hf0 (by omega) (ReadsInt.below hrd4 hb) (by rw [HLE.out, HM0.out]; omega) (by rw [HLE.out, HM0.out]; omega))
            rw [HRW.out.1, decide_eq_false g2, Bool.false_or, HLE.out] at HUs
            clear hv4 hrd4
            cases hbit : bitM M1 j with
            | false =>
              rw [hbit] at HUs
              have HE := Lib.hid (HNo.out (by unfold mayB; rw [Int.toNat_natCast, hbit, Bool.and_false, Bool.and_false]))
              clear hbit
              go_wp2_with (first
                | (go_at_call 25; (with_reducible refine (HBk.out).mono ?_); rintro e w4 ⟨rfl, hb4⟩; have HB4 := Lib.hid hb4; clear hb4)
                | (go_at_call 49; (with_reducible refine ((HKp _ HB4.out).out).mono ?_); rintro e w5 ⟨rfl, hb5⟩; have HB5 := Lib.hid (below_then HB4.out HB4.out.size hb5); clear hb5)
                | (go_at_call 48; (with_reducible refine ((HUs _ HB5.out).out).mono ?_); rintro e w6 ⟨rfl, hb6⟩; have HB6 := Lib.hid (below_then HB5.out HB5.out.size hb6); clear hb6))
              go_ret
              exact HFN.out _ HE.out (HT.out.trans (HB6.out.mono HT.out.size))
            | true =>
              rw [hbit] at HUs
              have HY : Hid (mayB lo (nBl size d) M1 (j : Int) = true) := Lib.hid (by unfold mayB; rw [Int.toNat_natCast, hbit, decide_eq_true (by omega), decide_eq_true (by omega)]; rfl)
              clear hbit
              go_wp2_with (first
                | (go_at_call 25; (with_reducible refine (HBk.out).mono ?_); rintro e w4 ⟨rfl, hb4⟩; have HB4 := Lib.hid hb4; clear hb4)
                | (go_at_call 49; (with_reducible refine ((HKp _ HB4.out).out).mono ?_); rintro e w5 ⟨rfl, hb5⟩; have HB5 := Lib.hid (below_then HB4.out HB4.out.size hb5); clear hb5)
                | (go_at_call 48; (with_reducible refine ((HUs _ HB5.out).out).mono ?_); rintro e w6 ⟨rfl, hb6⟩; have HB6 := Lib.hid (below_then HB5.out HB5.out.size hb6); clear hb6))
              have hj8 : j < 8192 := by omega
              obtain ⟨p, hp⟩ : ∃ p, j / 8 = p := ⟨_, rfl⟩
              obtain ⟨r, hr⟩ : ∃ r, j % 8 = r := ⟨_, rfl⟩
              have hpM : p < M1.length := by rw [HLE.out, HM0.out]; omega
              have hpM2 : p < (mapOf size d m first).length := by rw [HM0.out]; omega
              have hr8 : r < 8 := by omega
              have hp8 : p < 8192 := by omega
              have hr7 : BRow w6.drew 0 (.slice (some ⟨g3, 0, none⟩) M1.length c3) M1 := by rw [HLE.out]; exact HR1.out.below (below_drew HB6.out)
              have hpI : (p : Int) < (M1.length : Int) := by omega
              have hpI2 : (p : Int) < ((mapOf size d m first).length : Int) := by omega
              have y1 := (own_at hr7 (p : Int) (Int.natCast_nonneg _) hpI).1
              have y2 := (own_at hr7 (p : Int) (Int.natCast_nonneg _) hpI).2
              rw [rd_u8s M1 p hpM, Int.toNat_natCast] at y1
              rw [Int.toNat_natCast] at y2
              have HS : Hid (clrB M1 j = M1.set p (clrb (M1[p]) r)) := Lib.hid (by unfold clrB; rw [hp, hr, List.getD_eq_getElem?_getD, List.getElem?_eq_getElem hpM]; rfl)
              generalize M1[p] = x at *
              have hx0 : 0 ≤ (x.toNat : Int) := Int.natCast_nonneg _
              have hx1 : (x.toNat : Int) < 256 := by have := x.toNat_lt; omega
              have HR7 := Lib.hid hr7
              have HR8 := Lib.hid hr8
              have hj8i : (j : Int) < 8192 := by omega
              have hr8i : (r : Int) < 8 := by omega
              have hp8i : (p : Int) < 8192 := by omega
              obtain ⟨e1, e2, e3, e5⟩ := byteIdx j p r hp hr hj8
              clear hp hr hr7 hnr hf1 g2 hlo0 hj8 hp8
              go_wp2_with fail
              refine way_start (fun w' => w'.cell? ⟨g3, p, none⟩ = some (.int .u8 (x.toNat : Int)) ∧ w'.frozen? ⟨g3, p, none⟩ = false) plFre (by kernel_rfl) rfl (⟨y1, y2⟩) (fun hHeld => ?_)
              repeat (first
                | (refine way_pure (v := undef) (a' := ?_) plFre rfl rfl rfl (fun _ _ _ h => h) (Or.inr ⟨by rfl, rfl⟩) ?_ ?_; rotate_left; (· (simp only [aw]; rfl)))
                | (refine way_pure (v := ?_) (a' := ?_) plFre rfl rfl rfl (fun _ _ _ h => h) (Or.inl ⟨by rfl, ?_⟩) ?_ ?_; rotate_left; (· (intro w'; go_simp; with_reducible rfl)); rotate_left; (· (simp only [aw]; rfl)))
                | (refine way_take (v := ?_) (a' := ?_) plFre rfl rfl rfl (fun _ _ _ h => h) (Or.inl ⟨by rfl, ?_⟩) hHeld ?_ ?_; rotate_left; (· (rintro w' ⟨s0, s1⟩; go_simp; with_reducible rfl)); rotate_left; (· (simp only [aw]; rfl))))
              rw [clrb_or x r HR8.out]
              clear e1 e2 e3 e5
              refine way_last plFre rfl rfl rfl (fun K hK => ?_)
              refine skip_ (w1 := ?_) (by rfl) rfl ?_ ?_
              rotate_left
              · go_simp
                rfl
              refine hK.out _ _ ?_
              clear hK K
              refine way_done plFre rfl (by decide) ?_
              go_wp2
              refine ⟨⟨k + 1, by omega, by go_num, Lib.hid ⟨clrB M1 j, ?_, ?_⟩, Lib.hid ?_⟩, by simp [intOf]; omega⟩
              · rw [HTk.out, freeBits_snoc _ _ _ _ _ _ HM1.out, HY.out, if_pos rfl, Int.toNat_natCast]
              · rw [HS.out]
                have hst := own_store HR7.out (p : Int) ((clrb x r).toNat : Int)
                unfold BRow
                rw [List.length_set, show u8s (M1.set p (clrb x r)) = (u8s M1).set p ((clrb x r).toNat : Int) by unfold u8s; rw [List.map_set]]
                exact hst.1
              · have hg3 : w2.heap.size ≤ g3 := HG3.out
                exact ((HT.out.trans (HB6.out.mono HT.out.size)).setCell hg3 _).drew
    · obtain rfl : k = l.length := by omega
      rw [List.take_length] at HM1
      have HRR : Hid (freeR size d m first l = some M1) := Lib.hid (by rw [HFR.out]; exact HM1.out)
      obtain ⟨A5, c5, hv5, hrd5⟩ := BRow.reads (show BRow wr 0 (.slice (some ⟨g3, 0, none⟩) M1.length c3) M1 by rw [HLE.out]; exact HR1.out)
      obtain ⟨rfl, rfl⟩ : A5 = some ⟨g3, 0, none⟩ ∧ c3 = c5 := by
        injection hv5 with e1 e2 e3
        exact ⟨e1.symm, e3⟩
      have hLy := spLay wr bs' bt bm bl bd m F size d first g c1 g3 c3 (mapOf size d m first) M1 HX1.out.sp HX1.out.ok hf0 (by rw [HRW.out.1]; exact hf1) (ReadsInt.below HRD.out HT.out) hrd5 HM0.out (by rw [HLE.out, HM0.out]) (HR2.out.cap).2 (by rw [HLE.out]; exact (BRow.cap HR1.out).2) (by have := HB1.out.size; omega) (by have := HG3.out; omega) ⟨HX1.out.st, HX1.out.sm⟩
      rw [HLE.out] at hLy
      have HLy := Lib.hid hLy
      clear hLy hv5 hrd5
      go_wp2_with fail
      (with_reducible refine HLy.out.mono ?_)
      rintro e w6 ⟨rfl, hk6, ht6⟩
      have HK6 := Lib.hid hk6
      have HT6 := Lib.hid ht6
      clear hk6 ht6
      go_wp2
      go_ret
      unfold FreePost
      rw [HRR.out]
      exact ⟨rfl, HX1.out.touch HT6.out HK6.out, (Touch.of (HB2.out.trans (HT.out.mono hs2))).same HT6.out⟩
end Go.Proofs.Ythijhmidmhgfaaa

set_option linter.unusedVariables false
set_option linter.unusedSimpArgs false
namespace Go.Proofs.Ythijhmidmhgfaaa
open Go.RowKit Go.Proofs.YthijhmidmhgfaaaW.PrintWords Go.Proofs.YthijhmidmhgfaaaW.PrintLast Go.Maps Go.ChangeMaps
def PlacedPost (w : World) (bt : Nat) (size : Int) (d : Dk) (first : Int) (e : Ending) (w' : World) : Prop :=
  Below w.heap.size w w' ∧ (if first < 0 then e = .returned (.tuple #[.pointer none, .int .i64 1]) else if nBl size d - nBm size d < first then e = .returned (.tuple #[.pointer none, .int .i64 40])
    else ∃ bs', e = .returned (.tuple #[.pointer (some ⟨bs', 0, none⟩), .int .i64 0]) ∧ SpIs w' bs' bt first ∧ w.heap.size ≤ bs')
set_option maxRecDepth 100000 in
theorem placed_any (w : World) (bt bm bl bd : Nat) (m : List (Int × List UInt8)) (F : Nat → Prop) (size : Int) (d : Dk) (first : Int) (h : TxOk w bt bm bl bd m F size d) :
    Calls Try.prog 70 #[.pointer (some ⟨bt, 0, none⟩), .int .i64 first] w (PlacedPost w bt size d first) := by
  have HO := Lib.hid (spOver w bt bm bl bd m F size d h)
  have HB := fun w1 (hb : Below w.heap.size w w1) => Lib.hid (h.below hb).blocks
  have HS := fun w1 (hb : Below w.heap.size w w1) => Lib.hid (spBlocks w1 bt bm bl bd m F size d (h.below hb))
  obtain ⟨n1, n2, n3, n4, n5, n6⟩ := nBm_range h
  rw [show (d.seen.length : Int) - size = nBl size d from rfl] at HB
  have HP : Hid (∀ e w', Below w.heap.size w w' → (if first < 0 then e = .returned (.tuple #[.pointer none, .int .i64 1]) else if nBl size d - nBm size d < first then e = .returned (.tuple #[.pointer none, .int .i64 40])
    else ∃ bs', e = .returned (.tuple #[.pointer (some ⟨bs', 0, none⟩), .int .i64 0]) ∧ SpIs w' bs' bt first ∧ w.heap.size ≤ bs') → PlacedPost w bt size d first e w') := Lib.hid (fun e w' a b => ⟨a, b⟩)
  clear h
  generalize nBl size d = N at *
  generalize nBm size d = nb at *
  by_cases q0 : first < 0
  · have b0 : decide (first < 0) = true := decide_eq_true q0
    go_enter Try.func70, Try.ntmps70
    go_wp2_with (go_at_call 44; (with_reducible refine (HO.out).mono ?_); rintro e w1 ⟨rfl, hb1⟩; have HB1 := Lib.hid hb1; clear hb1)
    go_ret2
    refine HP.out _ _ HB1.out ?_
    rw [if_pos q0]
    rfl
  · have b0 : decide (first < 0) = false := decide_eq_false q0
    by_cases q1 : N - nb < first
    · have b1 : decide (N - nb < first) = true := decide_eq_true q1
      go_enter Try.func70, Try.ntmps70
      go_wp2_with (first
        | (go_at_call 44; (with_reducible refine (HO.out).mono ?_); rintro e w1 ⟨rfl, hb1⟩; have HB1 := Lib.hid hb1; clear hb1)
        | (go_at_call 25; (with_reducible refine ((HB _ HB1.out).out).mono ?_); rintro e w2 ⟨rfl, hb2⟩; have HB2 := Lib.hid (below_then HB1.out HB1.out.size hb2); clear hb2)
        | (go_at_call 71; (with_reducible refine ((HS _ HB2.out).out).mono ?_); rintro e w3 ⟨rfl, hb3⟩; have HB3 := Lib.hid (below_then HB2.out HB2.out.size hb3); clear hb3))
      go_ret2
      refine HP.out _ _ HB3.out ?_
      rw [if_neg (by omega), if_pos q1]
      rfl
    · have b1 : decide (N - nb < first) = false := decide_eq_false q1
      go_enter Try.func70, Try.ntmps70
      go_wp2_with (first
        | (go_at_call 44; (with_reducible refine (HO.out).mono ?_); rintro e w1 ⟨rfl, hb1⟩; have HB1 := Lib.hid hb1; clear hb1)
        | (go_at_call 25; (with_reducible refine ((HB _ HB1.out).out).mono ?_); rintro e w2 ⟨rfl, hb2⟩; have HB2 := Lib.hid (below_then HB1.out HB1.out.size hb2); clear hb2)
        | (go_at_call 71; (with_reducible refine ((HS _ HB2.out).out).mono ?_); rintro e w3 ⟨rfl, hb3⟩; have HB3 := Lib.hid (below_then HB2.out HB2.out.size hb3); clear hb3))
      go_ret2
      refine HP.out _ _ (below_then HB3.out HB3.out.size (below_alloc (Below.refl _ _) _)) ?_
      rw [if_neg (by omega), if_neg (by omega)]
      exact ⟨w3.heap.size, rfl, ⟨blk_new w3 _⟩, HB3.out.size⟩
theorem u8s_zero : u8s zeroS = List.replicate 512 0 := by
  unfold u8s zeroS
  rw [List.map_replicate]
  rfl
theorem make512 (W : World) : (Instr.makeSlice 40 (.int .i64 512) (.int .i64 512)).run Try.prog W = .ok (.slice (some ⟨W.heap.size, 0, none⟩) 512 512) (W.alloc (.cells (madeCells #[.int .u8 0] 512) 5)) := print_make (P := Try.prog) 40 5 .u8 1 Try.underlying40 u8_info (by decide) 512 (by decide) W
theorem conv512 (W : World) : (convert 40 9 (.slice (some ⟨W.heap.size, 0, none⟩) 512 512)).run Try.prog (W.alloc (.cells (madeCells #[.int .u8 0] 512) 5)) = .ok (.string (bs zeroS)) (W.alloc (.cells (madeCells #[.int .u8 0] 512) 5)) := by
  have ho := own_made W 0 5 .u8 512 (Nat.zero_le _) (by decide)
  have h := own_string (P := Try.prog) Try.underlying40 Try.underlying5 Try.underlying9 ho
  rw [h, show (List.replicate 512 (0 : Int)) = zeroS.map (fun x => (x.toNat : Int)) from u8s_zero.symm, nums_bs]
/-- the transaction's writes behind a Make -/
def madeM (m : List (Int × List UInt8)) (first : Int) : Nat → List (Int × List UInt8)
  | 0 => m
  | k + 1 => putW (first + (k : Int)) zeroS (madeM m first k)
def MakePost (w : World) (bt bm bl bd : Nat) (m : List (Int × List UInt8)) (F : Nat → Prop) (size : Int) (d : Dk) (first : Int) (e : Ending) (w' : World) : Prop :=
  if first < 0 then e = .returned (.tuple #[.pointer none, .int .i64 1]) ∧ Below w.heap.size w w' else if nBl size d - nBm size d < first then e = .returned (.tuple #[.pointer none, .int .i64 40]) ∧ Below w.heap.size w w'
    else ∃ bs', e = .returned (.tuple #[.pointer (some ⟨bs', 0, none⟩), .int .i64 0]) ∧ SpOk w' bs' bt bm bl bd (madeM m first (nBm size d).toNat) F size d first ∧ w.heap.size ≤ bs' ∧ Touch (fun k => k = bt ∨ k = bm) w w'
set_option maxRecDepth 100000 in
theorem spMake (w : World) (bt bm bl bd : Nat) (m : List (Int × List UInt8)) (F : Nat → Prop) (size : Int) (d : Dk) (first : Int) (h : TxOk w bt bm bl bd m F size d) (hF : ∀ k, F k → k < w.heap.size) :
    Calls Try.prog 39 #[.pointer (some ⟨bt, 0, none⟩), .int .i64 first] w (MakePost w bt bm bl bd m F size d first) := by
  have HP := Lib.hid (placed_any w bt bm bl bd m F size d first h)
  obtain ⟨n1, n2, n3, n4, n5, n6⟩ := nBm_range h
  have HX := Lib.hid h
  have HF := Lib.hid hF
  have ht1 := blk_lt h.tx.blk
  have ht2 := h.tx.own.lt
  clear h hF
  go_enter Try.func39, Try.ntmps39
  go_wp2_with fail
  (with_reducible refine HP.out.mono ?_)
  rintro e w1 ⟨hb1, hp1⟩
  have HB1 := Lib.hid hb1
  clear hb1
  by_cases q0 : first < 0
  · rw [if_pos q0] at hp1
    subst hp1
    have HQ : Hid (∀ e w', e = .returned (.tuple #[.pointer none, .int .i64 1]) → Below w.heap.size w w' → MakePost w bt bm bl bd m F size d first e w') := Lib.hid (fun e w' a b => by unfold MakePost; rw [if_pos q0]; exact ⟨a, b⟩)
    go_wp2
    go_ret2
    exact HQ.out _ _ rfl HB1.out
  · rw [if_neg q0] at hp1
    by_cases q1 : nBl size d - nBm size d < first
    · rw [if_pos q1] at hp1
      subst hp1
      have HQ : Hid (∀ e w', e = .returned (.tuple #[.pointer none, .int .i64 40]) → Below w.heap.size w w' → MakePost w bt bm bl bd m F size d first e w') := Lib.hid (fun e w' a b => by unfold MakePost; rw [if_neg q0, if_pos q1]; exact ⟨a, b⟩)
      go_wp2
      go_ret2
      exact HQ.out _ _ rfl HB1.out
    · rw [if_neg q1] at hp1
      obtain ⟨bs', rfl, hs1, hge⟩ := hp1
      have HSp := Lib.hid hs1
      have HQ : Hid (∀ e w', (∃ bs', e = .returned (.tuple #[.pointer (some ⟨bs', 0, none⟩), .int .i64 0]) ∧ SpOk w' bs' bt bm bl bd (madeM m first (nBm size d).toNat) F size d first ∧ w.heap.size ≤ bs' ∧ Touch (fun k => k = bt ∨ k = bm) w w') → MakePost w bt bm bl bd m F size d first e w') := Lib.hid (fun e w' a => by unfold MakePost; rw [if_neg q0, if_neg q1]; exact a)
      have hmk := make512 w1
      have hcv := conv512 w1
      have HBk := Lib.hid (spBlocks (w1.alloc (.cells (madeCells #[.int .u8 0] 512) 5)) bt bm bl bd m F size d (HX.out.below (below_then HB1.out HB1.out.size (below_alloc (Below.refl _ _) _))))
      obtain ⟨nb, hnb⟩ := Int.eq_ofNat_of_zero_le (show 0 ≤ nBm size d by omega)
      rw [hnb] at HBk q1 n1 n2 n3
      rw [hnb, Int.toNat_natCast] at HQ
      have HNB := Lib.hid hnb
      clear hs1 hnb n5
      go_wp2_with (go_at_call 71; (with_reducible refine (HBk.out).mono ?_); rintro e w2 ⟨rfl, hb2⟩; have HB2 := Lib.hid (below_then HB1.out HB1.out.size ((below_alloc (Below.refl _ _) _).trans (hb2.mono (by simp [go_sem])))); have HSp2 := Lib.hid (HSp.out.below ((below_alloc (Below.refl _ _) _).trans (hb2.mono (by simp [go_sem])))); clear hb2)
      go_loopw [24] (fun i wr => ∃ k : Nat, k ≤ nb ∧ i = .int .i64 k ∧ Hid (TxOk wr bt bm bl bd (madeM m first k) F size d) ∧ Hid (Touch (fun k => k = bt ∨ k = bm) w2 wr)) (fun i _ => nb - (intOf i).toNat)
      case atStart => exact ⟨0, Nat.zero_le _, rfl, Lib.hid (HX.out.below HB2.out), Lib.hid (Touch.refl _ _)⟩
      case round =>
        obtain ⟨k, hk, rfl, HK, HT⟩ := hrel
        by_cases hlt : k < nb
        · have g0 : 0 ≤ first + (k : Int) := by omega
          have g1 : first + (k : Int) < nBl size d := by omega
          have g2 : first + (k : Int) ≤ 8192 := by omega
          have HWr := Lib.hid (HK.out.write (first + (k : Int)) zeroS g0 g1 zeroS_len)
          have HN : Hid (madeM m first (k + 1) = putW (first + (k : Int)) zeroS (madeM m first k)) := Lib.hid rfl
          go_wp2_with (go_at_call 17; (with_reducible refine (HWr.out).mono ?_); rintro e w3 ⟨rfl, hk3, ht3⟩; have HK3 := Lib.hid hk3; clear hk3; have HT3 := Lib.hid ht3; clear ht3)
          refine ⟨⟨k + 1, by omega, by go_num, Lib.hid ?_, Lib.hid (HT.out.same HT3.out)⟩, by simp [intOf]; omega⟩
          rw [HN.out]
          exact HK3.out
        · obtain rfl : k = nb := by omega
          go_wp2
          go_ret2
          refine HQ.out _ _ ⟨bs', rfl, ⟨HSp2.out.touch HT.out (fun hx => by rcases hx with hx | hx <;> omega), HK.out, by omega, by rw [HNB.out]; omega, fun hf => by have := HF.out _ hf; omega, by omega, by omega⟩, hge, (Touch.of HB2.out).same HT.out⟩
end Go.Proofs.Ythijhmidmhgfaaa

set_option linter.unusedVariables false
set_option linter.unusedSimpArgs false
namespace Go.Proofs.Ythijhmidmhgfaaa
open Go.RowKit Go.Proofs.YthijhmidmhgfaaaW.PrintWords Go.Proofs.YthijhmidmhgfaaaW.PrintLast Go.Maps Go.ChangeMaps
theorem getD_set (M : List UInt8) (i j : Nat) (x : UInt8) (h : i < M.length) : (M.set i x).getD j 0 = if i = j then x else M.getD j 0 := by
  rw [List.getD_eq_getElem?_getD, List.getD_eq_getElem?_getD, List.getElem?_set]
  by_cases e : i = j
  · subst e
    rw [if_pos rfl, if_pos rfl, if_pos h]
    rfl
  · rw [if_neg e, if_neg e]
theorem bitM_setB (M : List UInt8) (k n : Nat) (h : k < M.length * 8) : bitM (setB M k) n = (decide (n = k) || bitM M n) := by
  unfold bitM setB
  rw [getD_set _ _ _ _ (by omega)]
  by_cases e : k / 8 = n / 8
  · rw [if_pos e, setb_bit _ _ _ (by omega) (by omega), e]
    congr 1
    rw [Bool.eq_iff_iff, decide_eq_true_iff, decide_eq_true_iff]
    omega
  · rw [if_neg e, decide_eq_false (by omega), Bool.false_or]
theorem bitM_clrB (M : List UInt8) (k n : Nat) (h : k < M.length * 8) : bitM (clrB M k) n = (!decide (n = k) && bitM M n) := by
  unfold bitM clrB
  rw [getD_set _ _ _ _ (by omega)]
  by_cases e : k / 8 = n / 8
  · rw [if_pos e, clrb_bit _ _ _ (by omega) (by omega), e]
    congr 1
    congr 1
    rw [Bool.eq_iff_iff, decide_eq_true_iff, decide_eq_true_iff]
    omega
  · rw [if_neg e, decide_eq_false (by omega)]
    rfl
theorem bitM_setAll (n : Nat) : ∀ (l : List Nat) (M : List UInt8), (∀ k ∈ l, k < M.length * 8) → bitM (setAll M l) n = (decide (n ∈ l) || bitM M n)
  | [], M, _ => by simp [setAll]
  | k :: r, M, h => by
    show bitM (setAll (setB M k) r) n = _
    rw [bitM_setAll n r (setB M k) (fun j hj => by rw [setB_len]; exact h j (List.mem_cons_of_mem _ hj)), bitM_setB M k n (h k List.mem_cons_self)]
    rw [Bool.eq_iff_iff]
    simp only [Bool.or_eq_true, decide_eq_true_iff, List.mem_cons]
    constructor
    · rintro (h1 | h1 | h1)
      · exact .inl (.inr h1)
      · exact .inl (.inl h1)
      · exact .inr h1
    · rintro ((h1 | h1) | h1)
      · exact .inr (.inl h1)
      · exact .inl h1
      · exact .inr (.inr h1)
theorem getW_ins (x : Int × List UInt8) (k : Int) : ∀ m : List (Int × List UInt8), (∀ y ∈ m, y.1 ≠ x.1) → (insW x m).find? (fun p => p.1 == k) = if x.1 = k then some x else m.find? fun p => p.1 == k
  | [], _ => by
    rw [insW, List.find?_cons]
    by_cases e : x.1 = k
    · rw [if_pos e, show (x.1 == k) = true by simpa using e]
    · rw [if_neg e, show (x.1 == k) = false by simpa using e]
  | z :: r, h => by
    rw [insW]
    split
    · rw [List.find?_cons]
      by_cases e : x.1 = k
      · rw [if_pos e, show (x.1 == k) = true by simpa using e]
      · rw [if_neg e, show (x.1 == k) = false by simpa using e]
    · rw [List.find?_cons, List.find?_cons, getW_ins x k r (fun y hy => h y (List.mem_cons_of_mem _ hy))]
      by_cases e : x.1 = k
      · have hz := h z List.mem_cons_self
        simp only [if_pos e, show (z.1 == k) = false by rw [← e]; simpa using hz]
      · simp only [if_neg e]
theorem getW_put (k n : Int) (t : List UInt8) (m : List (Int × List UInt8)) : getW (putW k t m) n = if k = n then some t else getW m n := by
  unfold getW putW
  rw [getW_ins (k, t) n _ (fun y hy => by rw [List.mem_filter] at hy; simpa using hy.2)]
  by_cases e : k = n
  · rw [if_pos e, if_pos e]
    rfl
  · rw [if_neg e, if_neg e]
    congr 1
    rw [List.find?_filter]
    congr 1
    funext p
    by_cases hp : p.1 = n
    · have h2 : (p.1 == k) = false := by rw [hp]; simpa using fun h => e h.symm
      rw [h2]
      simp [hp]
    · have h2 : (p.1 == n) = false := by simpa using hp
      rw [h2]
      simp
theorem seeT_put (size : Int) (d : Dk) (m : List (Int × List UInt8)) (k n : Int) (t : List UInt8) : seeT size d (putW k t m) n = if k = n then t else seeT size d m n := by
  unfold seeT
  rw [getW_put]
  by_cases e : k = n
  · rw [if_pos e, if_pos e]
  · rw [if_neg e, if_neg e]
/-- what lies behind lay: the new bitmap's parts, all else as it was -/
theorem seeT_lay (size : Int) (d : Dk) (m : List (Int × List UInt8)) (first : Int) (M M2 : List UInt8) (n : Int) : ∀ k : Nat, (∀ i : Nat, i < k → seeT size d m (first + (i : Int)) = part M i) →
    seeT size d (layM m first M M2 k) n = if first ≤ n ∧ n < first + (k : Int) then part M2 (n - first).toNat else seeT size d m n
  | 0, _ => by rw [if_neg (by omega)]; rfl
  | k + 1, h => by
    rw [layM]
    have ih := seeT_lay size d m first M M2 n k (fun i hi => h i (by omega))
    cases q : (part M k == part M2 k) with
    | true =>
      rw [if_pos rfl, ih]
      by_cases e : first ≤ n ∧ n < first + (k : Int)
      · rw [if_pos e, if_pos (by omega)]
      · rw [if_neg e]
        by_cases e2 : first ≤ n ∧ n < first + ((k + 1 : Nat) : Int)
        · rw [if_pos e2]
          have e3 : n = first + (k : Int) := by omega
          have e4 : (n - first).toNat = k := by omega
          rw [e4, e3, h k (by omega)]
          simpa using q
        · rw [if_neg e2]
    | false =>
      rw [if_neg (by simp), seeT_put, ih]
      by_cases e3 : first + (k : Int) = n
      · rw [if_pos e3, if_pos (by omega), show (n - first).toNat = k by omega]
      · rw [if_neg e3]
        by_cases e : first ≤ n ∧ n < first + (k : Int)
        · rw [if_pos e, if_pos (by omega)]
        · rw [if_neg e, if_neg (by omega)]
theorem parts_join (M : List UInt8) : ∀ k : Nat, M.length = 512 * k → ((List.range k).flatMap fun i => part M i) = M := by
  have h : ∀ k : Nat, 512 * k ≤ M.length → ((List.range k).flatMap fun i => part M i) = M.take (512 * k) := by
    intro k
    induction k with
    | zero => intro _; rfl
    | succ k ih =>
      intro hk
      rw [List.range_succ, List.flatMap_append, ih (by omega)]
      simp only [List.flatMap_cons, List.flatMap_nil, List.append_nil]
      unfold part
      rw [show 512 * (k + 1) = 512 * k + 512 by omega, List.take_add]
  intro k hk
  rw [h k (by omega), List.take_of_length_le (by omega)]
theorem part_bmV (size : Int) (d : Dk) (m : List (Int × List UInt8)) (first : Int) (K : Nat) (hs : ∀ k : Nat, k ≤ K → (bmV size d m first k).length = 512 * k) : ∀ (k i : Nat), k ≤ K → i < k → part (bmV size d m first k) i = seeT size d m (first + (i : Int))
  | 0, i, _, h => by omega
  | k + 1, i, hK, h => by
    rw [bmV_succ]
    unfold part
    by_cases e : i = k
    · subst e
      rw [List.drop_left' (hs i (by omega))]
      refine List.take_of_length_le ?_
      have := hs (i + 1) hK
      rw [bmV_succ, List.length_append, hs i (by omega)] at this
      omega
    · rw [List.drop_append_of_le_length (by rw [hs k (by omega)]; omega), List.take_append_of_le_length (by rw [List.length_drop, hs k (by omega)]; omega)]
      exact part_bmV size d m first K hs k i (by omega) (by omega)
section
variable {w : World} {bs' bt bm bl bd : Nat} {m : List (Int × List UInt8)} {F : Nat → Prop} {size : Int} {d : Dk} {first : Int}
theorem SpOk.parts (h : SpOk w bs' bt bm bl bd m F size d first) (i : Nat) (hi : i < (nBm size d).toNat) : seeT size d m (first + (i : Int)) = part (mapOf size d m first) i :=
  (part_bmV size d m first (nBm size d).toNat (fun k hk => bmV_len h.ok first h.f0 k (by have := h.f1; have := (nBm_range h.ok).1; omega)) (nBm size d).toNat i (Nat.le_refl _) hi).symm
theorem flat_congr {α β : Type} {f g : α → List β} : ∀ l : List α, (∀ x ∈ l, f x = g x) → l.flatMap f = l.flatMap g
  | [], _ => rfl
  | x :: r, h => by
    rw [List.flatMap_cons, List.flatMap_cons, h x List.mem_cons_self, flat_congr r (fun y hy => h y (List.mem_cons_of_mem _ hy))]
/-- the bitmap behind lay is the one that was laid -/
theorem mapOf_lay (h : SpOk w bs' bt bm bl bd m F size d first) (M2 : List UInt8) (hl : M2.length = 512 * (nBm size d).toNat) : mapOf size d (layM m first (mapOf size d m first) M2 (nBm size d).toNat) first = M2 := by
  show (List.range (nBm size d).toNat).flatMap (fun i : Nat => seeT size d (layM m first (mapOf size d m first) M2 (nBm size d).toNat) (first + (i : Int))) = M2
  rw [flat_congr (g := fun i : Nat => part M2 i), parts_join M2 _ hl]
  intro i hi
  rw [List.mem_range] at hi
  rw [seeT_lay size d m first (mapOf size d m first) M2 _ (nBm size d).toNat (fun j hj => h.parts j hj), if_pos (by omega), show (first + (i : Int) - first).toNat = i by omega]
theorem freeL_mem (M : List UInt8) (lo hi n : Nat) : n ∈ freeL M lo hi ↔ lo ≤ n ∧ n < hi ∧ bitM M n = false := by
  unfold freeL
  rw [List.mem_filter, List.mem_range]
  simp
  constructor
  · rintro ⟨a, b, c⟩
    exact ⟨b, a, c⟩
  · rintro ⟨a, b, c⟩
    exact ⟨b, a, c⟩
theorem freeL_sorted (M : List UInt8) (lo hi : Nat) : (freeL M lo hi).Pairwise (· < ·) := List.Pairwise.filter _ List.pairwise_lt_range
theorem filter_drop (f : List Nat) (q : Nat) (h : f.Pairwise (· < ·)) : f.filter (fun n => !decide (n ∈ f.take q)) = f.drop q := by
  have hs : f = f.take q ++ f.drop q := (List.take_append_drop q f).symm
  rw [hs] at h
  rw [List.pairwise_append] at h
  conv => lhs; rw [hs, List.filter_append]
  rw [List.filter_eq_nil_iff.2 (fun a ha => by rw [List.take_append_drop]; simp [ha]), List.nil_append]
  rw [List.filter_eq_self.2 (fun a ha => by
    rw [List.take_append_drop]
    have : a ∉ f.take q := fun h3 => Nat.lt_irrefl a (h.2.2 a h3 a ha)
    simp [this])]
theorem freeL_setAll (M : List UInt8) (lo hi : Nat) (l : List Nat) (hl : ∀ k ∈ l, k < M.length * 8) : freeL (setAll M l) lo hi = (freeL M lo hi).filter fun n => !decide (n ∈ l) := by
  unfold freeL
  rw [List.filter_filter]
  refine List.filter_congr (fun n hn => ?_)
  rw [bitM_setAll n l M hl]
  cases decide (n ∈ l) <;> cases decide (lo ≤ n) <;> cases bitM M n <;> rfl
/-- an Alloc takes the first free blocks -/
theorem freeOf_taken (h : SpOk w bs' bt bm bl bd m F size d first) (q : Nat) : freeOf size d (takenM size d m first ((freeOf size d m first).take q)) first = (freeOf size d m first).drop q := by
  have hl := mapOf_len h
  have hr := nBm_range h.ok
  unfold takenM
  show freeL (mapOf size d _ first) _ _ = _
  rw [mapOf_lay h _ (by rw [setAll_len]; exact hl), freeL_setAll _ _ _ _ (fun k hk => by
    have h3 := List.mem_of_mem_take hk
    unfold freeOf at h3
    rw [freeL_mem] at h3
    have h4 := h3.2.1
    rw [hl]
    omega)]
  exact filter_drop (freeOf size d m first) q (freeL_sorted _ _ _)
/-- behind a Free: which bits are left -/
theorem freeBits_bit (lo N : Int) (h0 : 0 ≤ lo) (n : Nat) : ∀ (l : List Int) (M M1 : List UInt8), N ≤ (M.length : Int) * 8 → freeBits lo N M l = some M1 → bitM M1 n = (bitM M n && !decide ((n : Int) ∈ l))
  | [], M, M1, _, h => by
    injection h with h
    subst h
    simp
  | x :: r, M, M1, hN, h => by
    rw [freeBits] at h
    cases q : mayB lo N M x with
    | false => rw [q, if_neg (by simp)] at h; cases h
    | true =>
      rw [q, if_pos rfl] at h
      unfold mayB at q
      rw [Bool.and_eq_true, Bool.and_eq_true, decide_eq_true_iff, decide_eq_true_iff] at q
      rw [freeBits_bit lo N h0 n r _ _ (by rw [clrB_len]; exact hN) h, bitM_clrB M _ n (by omega)]
      rw [Bool.eq_iff_iff]
      simp only [Bool.and_eq_true, Bool.not_eq_true', decide_eq_false_iff_not, List.mem_cons, not_or]
      constructor
      · rintro ⟨⟨a, b⟩, c⟩
        exact ⟨b, by omega, c⟩
      · rintro ⟨a, b, c⟩
        exact ⟨⟨by omega, a⟩, c⟩
/-- which lists may be given back: all in place, in use, each once -/
def FreeOk (lo N : Int) (M : List UInt8) (l : List Int) : Prop := (∀ x ∈ l, lo ≤ x ∧ x < N ∧ bitM M x.toNat = true) ∧ l.Nodup
theorem freeBits_some (lo N : Int) (h0 : 0 ≤ lo) : ∀ (l : List Int) (M : List UInt8), N ≤ (M.length : Int) * 8 → FreeOk lo N M l → ∃ M1, freeBits lo N M l = some M1
  | [], M, _, _ => ⟨M, rfl⟩
  | x :: r, M, hN, h => by
    obtain ⟨h1, h2⟩ := h
    rw [List.nodup_cons] at h2
    have hx := h1 x List.mem_cons_self
    have q : mayB lo N M x = true := by unfold mayB; rw [decide_eq_true hx.1, decide_eq_true hx.2.1, hx.2.2]; rfl
    rw [freeBits, q, if_pos rfl]
    refine freeBits_some lo N h0 r _ (by rw [clrB_len]; exact hN) ⟨fun y hy => ?_, h2.2⟩
    have hy1 := h1 y (List.mem_cons_of_mem _ hy)
    refine ⟨hy1.1, hy1.2.1, ?_⟩
    rw [bitM_clrB M _ _ (by omega), hy1.2.2, decide_eq_false]
    · rfl
    · intro e
      have : y = x := by omega
      exact h2.1 (this ▸ hy)
theorem freeBits_ok (lo N : Int) (h0 : 0 ≤ lo) : ∀ (l : List Int) (M M1 : List UInt8), N ≤ (M.length : Int) * 8 → freeBits lo N M l = some M1 → FreeOk lo N M l
  | [], M, M1, _, _ => ⟨(fun x hx => by cases hx), List.nodup_nil⟩
  | x :: r, M, M1, hN, h => by
    rw [freeBits] at h
    cases q : mayB lo N M x with
    | false => rw [q, if_neg (by simp)] at h; cases h
    | true =>
      rw [q, if_pos rfl] at h
      unfold mayB at q
      rw [Bool.and_eq_true, Bool.and_eq_true, decide_eq_true_iff, decide_eq_true_iff] at q
      obtain ⟨h1, h2⟩ := freeBits_ok lo N h0 r _ _ (by rw [clrB_len]; exact hN) h
      refine ⟨fun y hy => ?_, List.nodup_cons.2 ⟨fun hx => ?_, h2⟩⟩
      · rcases List.mem_cons.1 hy with rfl | hy
        · exact ⟨q.1, q.2.1, q.2.2⟩
        · have := h1 y hy
          rw [bitM_clrB M _ _ (by omega), Bool.and_eq_true] at this
          exact ⟨this.1, this.2.1, this.2.2.2⟩
      · have := (h1 x hx).2.2
        rw [bitM_clrB M _ _ (by omega), decide_eq_true rfl] at this
        cases this
theorem bitM_zero (n k : Nat) : bitM (List.replicate k 0) n = false := by
  unfold bitM
  rw [List.getD_eq_getElem?_getD, List.getElem?_replicate]
  split <;> simp
theorem seeT_made (size : Int) (d : Dk) (m : List (Int × List UInt8)) (first : Int) (n : Int) : ∀ k : Nat, seeT size d (madeM m first k) n = if first ≤ n ∧ n < first + (k : Int) then zeroS else seeT size d m n
  | 0 => by rw [if_neg (by omega)]; rfl
  | k + 1 => by
    rw [madeM, seeT_put, seeT_made size d m first n k]
    by_cases e : first + (k : Int) = n
    · rw [if_pos e, if_pos (by omega)]
    · rw [if_neg e]
      by_cases e2 : first ≤ n ∧ n < first + (k : Int)
      · rw [if_pos e2, if_pos (by omega)]
      · rw [if_neg e2, if_neg (by omega)]
/-- a new space: all its blocks are free -/
theorem mapOf_made (size : Int) (d : Dk) (m : List (Int × List UInt8)) (first : Int) : mapOf size d (madeM m first (nBm size d).toNat) first = List.replicate (512 * (nBm size d).toNat) 0 := by
  have h : ∀ k : Nat, k ≤ (nBm size d).toNat → bmV size d (madeM m first (nBm size d).toNat) first k = List.replicate (512 * k) 0 := by
    intro k
    induction k with
    | zero => intro _; rfl
    | succ k ih =>
      intro hk
      rw [bmV_succ, ih (by omega), seeT_made, if_pos (by omega)]
      unfold zeroS
      rw [List.replicate_append_replicate, show 512 * k + 512 = 512 * (k + 1) by omega]
  exact h _ (Nat.le_refl _)
theorem freeOf_made (size : Int) (d : Dk) (m : List (Int × List UInt8)) (first : Int) : freeOf size d (madeM m first (nBm size d).toNat) first = (List.range (nBl size d).toNat).filter fun n => decide ((first + nBm size d).toNat ≤ n) := by
  unfold freeOf freeL
  rw [mapOf_made]
  refine List.filter_congr (fun n _ => ?_)
  rw [bitM_zero]
  simp
end
end Go.Proofs.Ythijhmidmhgfaaa

set_option linter.unusedVariables false
set_option linter.unusedSimpArgs false
namespace Go.Proofs.Ythijhmidmhgfaaa
open Go.RowKit Go.Proofs.YthijhmidmhgfaaaW.PrintWords Go.Proofs.YthijhmidmhgfaaaW.PrintLast Go.Maps Go.ChangeMaps
/-- a space with the free blocks f, of N, those below lo kept back; all of it lies from B on, below T -/
def SpSt (w : World) (B T bs' bt bm bl bd : Nat) (f : List Nat) (lo N : Nat) : Prop :=
  ∃ m F size d first, SpOk w bs' bt bm bl bd m F size d first ∧ freeOf size d m first = f ∧ nBl size d = (N : Int) ∧ first + nBm size d = (lo : Int) ∧ (∀ k, F k → B ≤ k ∧ k < T) ∧ B ≤ bs' ∧ B ≤ bt ∧ B ≤ bm ∧ bs' < T ∧ bt < T ∧ bm < T ∧ T ≤ w.heap.size
section
variable {w w1 : World} {B T bs' bt bm bl bd : Nat} {f : List Nat} {lo N : Nat}
theorem SpSt.below (h : SpSt w B T bs' bt bm bl bd f lo N) (hb : Below w.heap.size w w1) : SpSt w1 B T bs' bt bm bl bd f lo N := by
  obtain ⟨m, F, size, d, first, h1, h2, h3, h4, h5, h6, h7, h8, h9, h10, h11, h12⟩ := h
  exact ⟨m, F, size, d, first, h1.below hb, h2, h3, h4, h5, h6, h7, h8, h9, h10, h11, Nat.le_trans h12 hb.size⟩
theorem SpSt.move (h : SpSt w B T bs' bt bm bl bd f lo N) {G : Nat → Prop} (ht : Touch G w w1) (hd : ∀ k, G k → k < B ∨ T ≤ k) : SpSt w1 B T bs' bt bm bl bd f lo N := by
  obtain ⟨m, F, size, d, first, h1, h2, h3, h4, h5, h6, h7, h8, h9, h10, h11, h12⟩ := h
  have hn : ∀ k, B ≤ k → k < T → ¬ G k := fun k a b g => by rcases hd k g with h | h <;> omega
  exact ⟨m, F, size, d, first, ⟨h1.sp.touch ht (hn _ h6 h9), { h1.ok with tx := h1.ok.tx.touch ht (hn _ h7 h10) (hn _ h8 h11), log := h1.ok.log.touch ht (fun k hk => hn k (h5 k hk).1 (h5 k hk).2) }, h1.f0, h1.f1, h1.ns, h1.st, h1.sm⟩, h2, h3, h4, h5, h6, h7, h8, h9, h10, h11, Nat.le_trans h12 ht.size⟩
theorem SpSt.facts (h : SpSt w B T bs' bt bm bl bd f lo N) : f.length ≤ N ∧ N ≤ 8192 ∧ lo ≤ N ∧ f.Pairwise (· < ·) ∧ (∀ x ∈ f, lo ≤ x ∧ x < N) ∧ bs' < T ∧ bt < T ∧ bm < T ∧ B ≤ bs' ∧ B ≤ bt ∧ B ≤ bm ∧ T ≤ w.heap.size := by
  obtain ⟨m, F, size, d, first, h1, h2, h3, h4, h5, h6, h7, h8, l1, l2, l3, h12⟩ := h
  have hr := nBm_range h1.ok
  have hf := h1.f1
  subst h2
  refine ⟨?_, by omega, by omega, freeL_sorted _ _ _, fun x hx => ?_, l1, l2, l3, h6, h7, h8, h12⟩
  · have := freeL_len (mapOf size d m first) (first + nBm size d).toNat (nBl size d).toNat
    unfold freeOf
    omega
  · unfold freeOf at hx
    rw [freeL_mem] at hx
    omega
theorem SpSt.left (h : SpSt w B T bs' bt bm bl bd f lo N) : Calls Try.prog 13 #[.pointer (some ⟨bs', 0, none⟩)] w fun e w' => e = .returned (.int .i64 (f.length : Int)) ∧ Below w.heap.size w w' := by
  obtain ⟨m, F, size, d, first, h1, h2, h3, h4, h5, h6, h7, h8, h9, h10, h11, h12⟩ := h
  have hFF : ∀ k, F k → k < w.heap.size := fun k hk => Nat.lt_of_lt_of_le (h5 k hk).2 h12
  subst h2
  exact spLeft w bs' bt bm bl bd m F size d first h1 hFF
def usedF (f : List Nat) (lo N : Nat) (n : Int) : Bool := decide (0 ≤ n ∧ n < (N : Int) ∧ n.toNat ∉ f)
theorem SpSt.used (h : SpSt w B T bs' bt bm bl bd f lo N) (n : Int) : Calls Try.prog 15 #[.pointer (some ⟨bs', 0, none⟩), .int .i64 n] w fun e w' => e = .returned (.bool (usedF f lo N n)) ∧ Below w.heap.size w w' := by
  obtain ⟨m, F, size, d, first, h1, h2, h3, h4, h5, h6, h7, h8, h9, h10, h11, h12⟩ := h
  have hFF : ∀ k, F k → k < w.heap.size := fun k hk => Nat.lt_of_lt_of_le (h5 k hk).2 h12
  have hu := spUsedQ w bs' bt bm bl bd m F size d first n h1
  have e : usedV size d m first n = usedF f lo N n := by
    unfold usedV usedF
    rw [h3, h4, ← h2]
    rw [Bool.eq_iff_iff]
    simp only [Bool.and_eq_true, Bool.or_eq_true, decide_eq_true_iff]
    unfold freeOf
    rw [freeL_mem, h3, h4]
    constructor
    · rintro ⟨a, b, c⟩
      refine ⟨a, b, fun hx => ?_⟩
      rcases c with c | c
      · omega
      · rw [hx.2.2] at c; cases c
    · rintro ⟨a, b, c⟩
      refine ⟨a, b, ?_⟩
      by_cases q : n < (lo : Int)
      · exact .inl q
      · refine .inr ?_
        cases hb : bitM (mapOf size d m first) n.toNat with
        | true => rfl
        | false => exact absurd ⟨by omega, by omega, hb⟩ c
  rwa [e] at hu
def AllocQ (w : World) (B T bs' bt bm bl bd : Nat) (f : List Nat) (lo N q : Nat) (e : Ending) (w' : World) : Prop :=
  ∃ A c, e = .returned (.tuple #[.slice A q c, .int .i64 0]) ∧ kI.R 3 w' 0 (fun k => w.heap.size ≤ k ∧ k < w'.heap.size) (.slice A q c) (ints (f.take q)) ∧ SpSt w' B T bs' bt bm bl bd (f.drop q) lo N ∧ Touch (fun k => k = bt ∨ k = bm) w w'
theorem SpSt.alloc (h : SpSt w B T bs' bt bm bl bd f lo N) (q : Nat) (hq : q ≤ f.length) : Calls Try.prog 14 #[.pointer (some ⟨bs', 0, none⟩), .int .i64 (q : Int)] w (AllocQ w B T bs' bt bm bl bd f lo N q) := by
  obtain ⟨m, F, size, d, first, h1, h2, h3, h4, h5, h6, h7, h8, h9, h10, h11, h12⟩ := h
  have hFF : ∀ k, F k → k < w.heap.size := fun k hk => Nat.lt_of_lt_of_le (h5 k hk).2 h12
  subst h2
  refine (spAlloc w bs' bt bm bl bd m F size d first q h1 hFF hq).mono ?_
  rintro e w' ⟨A, c, rfl, hR, hS, hT⟩
  exact ⟨A, c, rfl, hR, ⟨_, F, size, d, first, hS, freeOf_taken h1 q, h3, h4, h5, h6, h7, h8, h9, h10, h11, Nat.le_trans h12 hT.size⟩, hT⟩
/-- may these be given back? -/
def MayGive (f : List Nat) (lo N : Nat) (l : List Int) : Prop := (∀ x ∈ l, (lo : Int) ≤ x ∧ x < (N : Int) ∧ x.toNat ∉ f) ∧ l.Nodup
def given (f : List Nat) (lo N : Nat) (l : List Int) : List Nat := (List.range N).filter fun n => decide (lo ≤ n) && (decide (n ∈ f) || decide ((n : Int) ∈ l))
theorem SpSt.free_ok (h : SpSt w B T bs' bt bm bl bd f lo N) (l : List Int) (A : Option Addr) (c : Nat) (hA : kI.C w A l.length l) (hl : MayGive f lo N l) : Calls Try.prog 16 #[.pointer (some ⟨bs', 0, none⟩), .slice A l.length c] w fun e w' => e = .returned (.int .i64 0) ∧ SpSt w' B T bs' bt bm bl bd (given f lo N l) lo N ∧ Touch (fun k => k = bt ∨ k = bm) w w' := by
  obtain ⟨m, F, size, d, first, h1, h2, h3, h4, h5, h6, h7, h8, h9, h10, h11, h12⟩ := h
  have hFF : ∀ k, F k → k < w.heap.size := fun k hk => Nat.lt_of_lt_of_le (h5 k hk).2 h12
  subst h2
  have hr := nBm_range h1.ok
  have hml := mapOf_len h1
  have hf := h1.f0
  have hN : nBl size d ≤ ((mapOf size d m first).length : Int) * 8 := by rw [hml]; omega
  have hok : FreeOk (first + nBm size d) (nBl size d) (mapOf size d m first) l := by
    refine ⟨fun x hx => ?_, hl.2⟩
    obtain ⟨a, b, c⟩ := hl.1 x hx
    refine ⟨by omega, by omega, ?_⟩
    unfold freeOf at c
    rw [freeL_mem] at c
    cases hb : bitM (mapOf size d m first) x.toNat with
    | true => rfl
    | false => exact absurd ⟨by omega, by omega, hb⟩ c
  obtain ⟨M1, hM1⟩ := freeBits_some _ _ (by omega) l _ hN hok
  refine (spFree w bs' bt bm bl bd m F size d first l A c h1 hFF hA).mono ?_
  intro e w' hp
  unfold FreePost freeR at hp
  rw [hM1] at hp
  obtain ⟨rfl, hS, hT⟩ := hp
  refine ⟨rfl, ⟨_, F, size, d, first, hS, ?_, h3, h4, h5, h6, h7, h8, h9, h10, h11, Nat.le_trans h12 hT.size⟩, hT⟩
  have hm1 := mapOf_lay h1 M1 (by rw [freeBits_len _ _ _ _ _ hM1]; exact hml)
  show freeL (mapOf size d _ first) _ _ = _
  rw [hm1]
  unfold freeL given
  rw [h3, Int.toNat_natCast]
  refine List.filter_congr (fun n hn => ?_)
  rw [List.mem_range] at hn
  rw [freeBits_bit _ _ (by omega) n l _ _ hN hM1, h4, Int.toNat_natCast]
  by_cases q : lo ≤ n
  · rw [decide_eq_true q, Bool.true_and, Bool.true_and]
    have e1 : decide (n ∈ freeOf size d m first) = !bitM (mapOf size d m first) n := by
      unfold freeOf
      rw [Bool.eq_iff_iff, decide_eq_true_iff, freeL_mem, Bool.not_eq_true']
      constructor
      · exact fun hx => hx.2.2
      · exact fun hx => ⟨by omega, by omega, hx⟩
    rw [e1]
    cases bitM (mapOf size d m first) n <;> cases decide ((n : Int) ∈ l) <;> rfl
  · rw [decide_eq_false q]
    rfl
theorem SpSt.free_no (h : SpSt w B T bs' bt bm bl bd f lo N) (l : List Int) (A : Option Addr) (c : Nat) (hA : kI.C w A l.length l) (hl : ¬ MayGive f lo N l) : Calls Try.prog 16 #[.pointer (some ⟨bs', 0, none⟩), .slice A l.length c] w fun e w' => e = .returned (.int .i64 1) ∧ Below w.heap.size w w' := by
  obtain ⟨m, F, size, d, first, h1, h2, h3, h4, h5, h6, h7, h8, h9, h10, h11, h12⟩ := h
  have hFF : ∀ k, F k → k < w.heap.size := fun k hk => Nat.lt_of_lt_of_le (h5 k hk).2 h12
  subst h2
  have hr := nBm_range h1.ok
  have hml := mapOf_len h1
  have hf := h1.f0
  have hN : nBl size d ≤ ((mapOf size d m first).length : Int) * 8 := by rw [hml]; omega
  refine (spFree w bs' bt bm bl bd m F size d first l A c h1 hFF hA).mono ?_
  intro e w' hp
  unfold FreePost at hp
  cases hq : freeR size d m first l with
  | none => rw [hq] at hp; exact hp
  | some M1 =>
    exfalso
    have hok := freeBits_ok _ _ (by omega) l _ _ hN hq
    refine hl ⟨fun x hx => ?_, hok.2⟩
    obtain ⟨a, b, c⟩ := hok.1 x hx
    refine ⟨by omega, by omega, fun hx2 => ?_⟩
    unfold freeOf at hx2
    rw [freeL_mem, c] at hx2
    cases hx2.2.2
end
end Go.Proofs.Ythijhmidmhgfaaa

set_option linter.unusedVariables false
set_option linter.unusedSimpArgs false
namespace Go.Proofs.Ythijhmidmhgfaaa
open Go.RowKit Go.Proofs.YthijhmidmhgfaaaW.PrintWords Go.Proofs.YthijhmidmhgfaaaW.PrintLast Go.Maps Go.ChangeMaps
theorem begin_any (w : World) (bl : Nat) : Calls Try.prog 27 #[.pointer (some ⟨bl, 0, none⟩)] w fun e w' => ∃ bt bm, e = .returned (.pointer (some ⟨bt, 0, none⟩)) ∧ TxIs w' bt bm bl [] false ∧ w.heap.size ≤ bt ∧ w.heap.size ≤ bm ∧ Below w.heap.size w w' := by
  have hmm := @run_makeMap Try.prog
  go_enter Try.func27, Try.ntmps27
  go_wp2
  go_ret
  refine ⟨w.heap.size + 1, w.heap.size, ?_, ⟨?_, ?_⟩, by omega, Nat.le_refl _, below_alloc (below_alloc (Below.refl _ _) _) _⟩
  · rfl
  · have h := blk_new (w.alloc (.map #[] 0)) (.cells #[.pointer (some ⟨bl, 0, none⟩), .map (some w.heap.size), .bool false] 93 (0, 0))
    rwa [show (w.alloc (.map #[] 0)).heap.size = w.heap.size + 1 by simp [go_sem]] at h
  · exact (World.ownsMap_made w Try.prog 3 blkElem).alloc _
theorem opened_len (n : Nat) (size : Int) : (openedD n size).seen.length = n := by simp [openedD]
theorem opened_secs (n : Nat) (size : Int) : ∀ t ∈ (openedD n size).seen, t.length = 512 := by
  intro t ht
  have : t ∈ (List.replicate n zeroS).set 0 (notedV sizeMark size) := ht
  rcases List.mem_or_eq_of_mem_set this with h | h
  · rw [List.eq_of_mem_replicate h]
    exact zeroS_len
  · rw [h]
    exact notedV_len sizeMark size (by decide)
def MadeP (w : World) (n : Nat) (e : Ending) (w' : World) : Prop := ∃ bl bd F, e = .returned (.tuple #[.pointer (some ⟨bl, 0, none⟩), .pointer (some ⟨bd, 0, none⟩)]) ∧ LogIs w' bl bd F 24 false (openedD n 24) ∧ (∀ k, F k → w.heap.size ≤ k ∧ k < w'.heap.size) ∧ Below w.heap.size w w'
theorem DiskIs.cut {w : World} {bd : Nat} {F : Nat → Prop} {d : Dk} (h : DiskIs w bd F d) : ∃ G : Nat → Prop, DiskIs w bd G d ∧ (∀ k, G k → F k) ∧ ∀ k, G k → k < w.heap.size := h.lt
theorem LogIs.cut {w : World} {bl bd : Nat} {F : Nat → Prop} {size : Int} {dead : Bool} {d : Dk} (h : LogIs w bl bd F size dead d) : ∃ G : Nat → Prop, LogIs w bl bd G size dead d ∧ (∀ k, G k → F k) ∧ ∀ k, G k → k < w.heap.size := by
  obtain ⟨H, h1, h2, h3⟩ := h.disk
  obtain ⟨G, g1, g2, g3⟩ := h1.lt
  refine ⟨fun k => G k ∨ k = bl, ⟨h.blk, ⟨G, g1, fun k hk => .inl hk, fun hk => h3 (g2 _ hk)⟩, .inr rfl⟩, fun k hk => ?_, fun k hk => ?_⟩
  · rcases hk with hk | rfl
    · exact h2 k (g2 k hk)
    · exact h.in_
  · rcases hk with hk | rfl
    · exact g3 k hk
    · exact blk_lt h.blk
set_option maxRecDepth 100000 in
theorem made_any (w : World) (n : Nat) (h1 : 25 ≤ n) (h2 : n ≤ 8192) : Calls Try.prog 38 #[.int .i64 (n : Int)] w (MadeP w n) := by
  have HN := Lib.hid (dnew w n (by omega) h2)
  have hn1 : (25 : Int) ≤ (n : Int) := by omega
  have hn2 : (n : Int) ≤ 8192 := by omega
  go_enter Try.func38, Try.ntmps38
  go_wp2_with fail
  (with_reducible refine HN.out.mono ?_)
  rintro e w1 ⟨bd, F0, rfl, hd0, hF0, hb1⟩
  obtain ⟨F1, hd1, hF1, hlt1⟩ := hd0.cut
  have HO := Lib.hid (open_new w1 bd n F1 24 hd1 hlt1 (by decide) (by omega) h2)
  have HF1 := Lib.hid (fun k (hk : F1 k) => hF0 k (hF1 k hk))
  have HB1 := Lib.hid hb1
  clear hd0 hF0 hd1 hF1 hlt1 hb1
  go_wp2_with fail
  (with_reducible refine HO.out.mono ?_)
  rintro e w2 ⟨bl, F2, rfl, hl2, hs2⟩
  obtain ⟨F3, hl3, hF3, hlt3⟩ := hl2.cut
  have HL3 := Lib.hid hl3
  have HF3 := Lib.hid hF3
  have HLt3 := Lib.hid hlt3
  have HS2 := Lib.hid hs2
  have HB := Lib.hid (lblocks w2 bl bd F3 24 false (openedD n 24) hl3 (by rw [opened_len]; exact h2) (by decide) (by decide))
  rw [opened_len] at HB
  clear hl2 hs2 hl3 hF3 hlt3
  go_wp2_with (go_at_call 12; (with_reducible refine (HB.out).mono ?_); rintro e w3 ⟨rfl, hb3⟩; have HB3 := Lib.hid hb3; clear hb3)
  go_ret2
  refine ⟨bl, bd, F3, rfl, HL3.out.below HB3.out, fun k hk => ⟨?_, Nat.lt_of_lt_of_le (HLt3.out k hk) HB3.out.size⟩, ?_⟩
  · rcases HS2.out.new k (HF3.out k hk) with h | h
    · exact HF1.out k h
    · exact Nat.le_trans HB1.out.size h
  · have hb2 := HS2.out.touch.below HB1.out HB1.out.size (fun k hk => HF1.out k hk)
    exact below_then hb2 hb2.size HB3.out
/-- a new space of that many sectors -/
def BegP (w : World) (n first : Nat) (e : Ending) (w' : World) : Prop := ∃ bs' bt bm bl bd, e = .returned (.tuple #[.pointer (some ⟨bs', 0, none⟩), .pointer (some ⟨bt, 0, none⟩), .pointer (some ⟨bl, 0, none⟩), .pointer (some ⟨bd, 0, none⟩)]) ∧
  SpSt w' w.heap.size w'.heap.size bs' bt bm bl bd ((List.range (n - 24)).filter fun k => decide (first + 1 ≤ k)) (first + 1) (n - 24) ∧ (∃ F, LogIs w' bl bd F 24 false (openedD n 24)) ∧ Below w.heap.size w w'
theorem begun_tx {w2 w3 : World} {bl bd bt bm n : Nat} {F : Nat → Prop} (hn1 : 25 ≤ n) (hn2 : n ≤ 8192) (hl : LogIs w2 bl bd F 24 false (openedD n 24)) (hlt : ∀ k, F k → k < w2.heap.size) (ht : TxIs w3 bt bm bl [] false) (h1 : w2.heap.size ≤ bt) (h2 : w2.heap.size ≤ bm) (hb : Below w2.heap.size w2 w3) : TxOk w3 bt bm bl bd [] F 24 (openedD n 24) :=
  ⟨ht, hl.below hb, rfl, by rw [opened_len]; exact hn2, by decide, by rw [opened_len]; omega, fun hf => by have := hlt _ hf; omega, fun hf => by have := hlt _ hf; omega, List.Pairwise.nil, opened_secs n 24, fun x hx => by cases hx⟩
def MadeS (w : World) (B bt bm bl bd n first : Nat) (F : Nat → Prop) (e : Ending) (w' : World) : Prop := ∃ bs', e = .returned (.tuple #[.pointer (some ⟨bs', 0, none⟩), .int .i64 0]) ∧
  SpSt w' B w'.heap.size bs' bt bm bl bd ((List.range (n - 24)).filter fun k => decide (first + 1 ≤ k)) (first + 1) (n - 24) ∧ (∃ m, TxOk w' bt bm bl bd m F 24 (openedD n 24)) ∧ Touch (fun k => k = bt ∨ k = bm) w w'
theorem make_ok (w : World) (B bt bm bl bd n first : Nat) (F : Nat → Prop) (h : TxOk w bt bm bl bd [] F 24 (openedD n 24)) (hn1 : 25 ≤ n) (hn2 : n ≤ 4120) (hB : ∀ k, F k → B ≤ k ∧ k < w.heap.size) (hbt : B ≤ bt) (hbm : B ≤ bm) (hf : first + 25 ≤ n) :
    Calls Try.prog 39 #[.pointer (some ⟨bt, 0, none⟩), .int .i64 (first : Int)] w (MadeS w B bt bm bl bd n first F) := by
  have hl := opened_len n 24
  have e1 : nBl 24 (openedD n 24) = ((n - 24 : Nat) : Int) := by unfold nBl; rw [hl]; omega
  have e2 : nBm 24 (openedD n 24) = 1 := by unfold nBm; rw [e1]; omega
  refine (spMake w bt bm bl bd [] F 24 (openedD n 24) first h (fun k hk => (hB k hk).2)).mono ?_
  intro e w' hp
  unfold MakePost at hp
  rw [if_neg (by omega), if_neg (by rw [e1, e2]; omega)] at hp
  obtain ⟨bs', rfl, hs, hg, ht⟩ := hp
  have ht1 := blk_lt h.tx.blk
  refine ⟨bs', rfl, ⟨_, F, 24, openedD n 24, (first : Int), hs, ?_, e1, by rw [e2]; omega, fun k hk => ⟨(hB k hk).1, Nat.lt_of_lt_of_le (hB k hk).2 ht.size⟩, by omega, hbt, hbm, hs.lt.1, hs.lt.2.1, hs.lt.2.2, Nat.le_refl _⟩, ⟨_, hs.ok⟩, ht⟩
  rw [freeOf_made, e1, e2, Int.toNat_natCast]
  refine List.filter_congr (fun x _ => ?_)
  rw [show ((first : Int) + 1).toNat = first + 1 by omega]
theorem make_no (w : World) (bt bm bl bd n : Nat) (first : Int) (m : List (Int × List UInt8)) (F : Nat → Prop) (h : TxOk w bt bm bl bd m F 24 (openedD n 24)) (hn1 : 25 ≤ n) (hn2 : n ≤ 4120) (hF : ∀ k, F k → k < w.heap.size) (hf : (n : Int) - 25 < first) :
    Calls Try.prog 39 #[.pointer (some ⟨bt, 0, none⟩), .int .i64 first] w fun e w' => e = .returned (.tuple #[.pointer none, .int .i64 40]) ∧ Below w.heap.size w w' := by
  have hl := opened_len n 24
  have e1 : nBl 24 (openedD n 24) = ((n - 24 : Nat) : Int) := by unfold nBl; rw [hl]; omega
  have e2 : nBm 24 (openedD n 24) = 1 := by unfold nBm; rw [e1]; omega
  refine (spMake w bt bm bl bd m F 24 (openedD n 24) first h hF).mono ?_
  intro e w' hp
  unfold MakePost at hp
  rwa [if_neg (by omega), if_pos (by rw [e1, e2]; omega)] at hp
theorem lblocks_n (w : World) (bl bd n : Nat) (F : Nat → Prop) (v : Int) (h : LogIs w bl bd F 24 false (openedD n 24)) (hn1 : 25 ≤ n) (hn2 : n ≤ 4120) (hv : (n : Int) - 24 = v) : Calls Try.prog 12 #[.pointer (some ⟨bl, 0, none⟩)] w fun e w' => e = .returned (.int .i64 v) ∧ Below w.heap.size w w' := by
  have := lblocks w bl bd F 24 false (openedD n 24) h (by rw [opened_len]; omega) (by decide) (by decide)
  rwa [opened_len, hv] at this
set_option maxRecDepth 100000 in
theorem begun_any (w : World) (n first : Nat) (hn1 : 25 ≤ n) (hn2 : n ≤ 4120) (hf : first + 25 ≤ n) : Calls Try.prog 11 #[.int .i64 (n : Int), .int .i64 (first : Int)] w (BegP w n first) := by
  have HM := Lib.hid (made_any w n hn1 (by omega))
  have hk : (first : Int) ≤ 8192 := by omega
  go_enter Try.func11, Try.ntmps11
  go_wp2_with fail
  (with_reducible refine HM.out.mono ?_)
  rintro e w2 ⟨bl, bd, F, rfl, hl2, hF2, hb2⟩
  have HB := Lib.hid (begin_any w2 bl)
  have HL := Lib.hid hl2
  have HF := Lib.hid hF2
  have HB2 := Lib.hid hb2
  clear hl2 hF2 hb2
  go_wp2_with fail
  (with_reducible refine HB.out.mono ?_)
  rintro e w3 ⟨bt, bm, rfl, ht, h1, h2, hb3⟩
  have HT := Lib.hid (begun_tx hn1 (by omega) HL.out (fun k hk => (HF.out k hk).2) ht h1 h2 hb3)
  have hz := HB2.out.size
  have HK := Lib.hid (make_ok w3 w.heap.size bt bm bl bd n first F HT.out hn1 hn2 (fun k hk => ⟨(HF.out k hk).1, Nat.lt_of_lt_of_le (HF.out k hk).2 hb3.size⟩) (by omega) (by omega) hf)
  have HB3 := Lib.hid (below_then HB2.out hz hb3)
  clear ht hb3
  go_wp2_with fail
  (with_reducible refine HK.out.mono ?_)
  rintro e w4 ⟨bs', rfl, hs, ⟨_, hl⟩, ht⟩
  have HS := Lib.hid hs
  have HL4 := Lib.hid hl.log
  have HB4 := Lib.hid (ht.below HB3.out HB3.out.size (fun k hk => by rcases hk with hk | hk <;> omega))
  clear hs hl ht
  go_wp2
  refine bodyPost_ret (results_tmp4 rfl _ _ _) rfl ?_
  exact ⟨bs', bt, bm, bl, bd, rfl, HS.out, ⟨F, HL4.out⟩, HB4.out⟩
theorem least_any (w : World) (n : Int) (m : Nat) (hm : 0 < m) (hm2 : m ≤ 8200) (h0 : -9223372036854775808 ≤ n) (h1 : n ≤ 9223372036854775807) : Calls Try.prog 10 #[.int .i64 n, .int .i64 (m : Int)] w fun e w' => e = .returned (.int .i64 (n % (m : Int))) ∧ Below w.heap.size w w' := by
  have hz : ((m : Int) = 0) = False := by simp; omega
  have h4 := Int.emod_nonneg n (show (m : Int) ≠ 0 by omega)
  have h5 := Int.emod_lt_of_pos n (show (0 : Int) < (m : Int) by omega)
  have h6 : n.tmod m = n % (m : Int) ∨ n.tmod m = n % (m : Int) - m := by
    have h := @Int.tmod_eq_emod n m
    split at h
    · exact .inl (by omega)
    · exact .inr (by omega)
  generalize hE : n % (m : Int) = E at *
  by_cases q : n.tmod m < 0
  · have HE : Hid (n.tmod m + m = E) := Lib.hid (by omega)
    go_enter Try.func10, Try.ntmps10
    go_wp2
    go_ret
    exact ⟨by rw [← HE.out]; first | rfl | (go_num <;> rfl), Below.refl _ _⟩
  · have HE : Hid (n.tmod m = E) := Lib.hid (by omega)
    go_enter Try.func10, Try.ntmps10
    go_wp2
    go_ret
    exact ⟨by rw [← HE.out]; rfl, Below.refl _ _⟩
end Go.Proofs.Ythijhmidmhgfaaa

set_option linter.unusedVariables false
set_option linter.unusedSimpArgs false
namespace Go.Proofs.Ythijhmidmhgfaaa
open Go.RowKit Go.Proofs.YthijhmidmhgfaaaW.PrintWords Go.Proofs.YthijhmidmhgfaaaW.PrintLast Go.Maps Go.ChangeMaps
section
variable {w w1 : World} {B T bs' bt bm bl bd : Nat} {f : List Nat} {lo N : Nat}
theorem SpSt.used_is (h : SpSt w B T bs' bt bm bl bd f lo N) (n : Int) (b : Bool) (hb : usedF f lo N n = b) : Calls Try.prog 15 #[.pointer (some ⟨bs', 0, none⟩), .int .i64 n] w fun e w' => e = .returned (.bool b) ∧ Below w.heap.size w w' := by
  rw [← hb]
  exact h.used n
theorem SpSt.left_is (h : SpSt w B T bs' bt bm bl bd f lo N) (n : Int) (hb : (f.length : Int) = n) : Calls Try.prog 13 #[.pointer (some ⟨bs', 0, none⟩)] w fun e w' => e = .returned (.int .i64 n) ∧ Below w.heap.size w w' := by
  rw [← hb]
  exact h.left
theorem Touch.cell {F : Nat → Prop} (h : Touch F w w1) {b i : Nat} {v : Value} (hc : w.cell? ⟨b, i, none⟩ = some v) (hb : ¬ F b) : w1.cell? ⟨b, i, none⟩ = some v := by
  have hlt : b < w.heap.size := by
    refine Nat.lt_of_not_le (fun hn => ?_)
    unfold World.cell? at hc
    simp [Array.getElem?_eq_none hn] at hc
  have := h.block b hlt hb
  unfold World.cell? at hc ⊢
  simp only at hc ⊢
  rw [this]
  exact hc
theorem SpSt.gives (h : SpSt w B T bs' bt bm bl bd f lo N) (l : List Int) (n : Nat) (A : Option Addr) (c : Nat) (hn : l.length = n) (hA : kI.C w A n l) (hl : MayGive f lo N l) (g : List Nat) (hg : given f lo N l = g) : Calls Try.prog 16 #[.pointer (some ⟨bs', 0, none⟩), .slice A n c] w fun e w' => e = .returned (.int .i64 0) ∧ SpSt w' B T bs' bt bm bl bd g lo N ∧ Touch (fun k => k = bt ∨ k = bm) w w' := by
  subst hn hg
  exact h.free_ok l A c hA hl
theorem SpSt.gives_no (h : SpSt w B T bs' bt bm bl bd f lo N) (l : List Int) (n : Nat) (A : Option Addr) (c : Nat) (hn : l.length = n) (hA : kI.C w A n l) (hl : ¬ MayGive f lo N l) : Calls Try.prog 16 #[.pointer (some ⟨bs', 0, none⟩), .slice A n c] w fun e w' => e = .returned (.int .i64 1) ∧ Below w.heap.size w w' := by
  subst hn
  exact h.free_no l A c hA hl
theorem kI_form {base e : Nat} {ok : Nat → Prop} {v : Value} {xs : List Int} (h : kI.R e w base ok v xs) (hn : 0 < xs.length) : ∃ g c, v = .slice (some ⟨g, 0, none⟩) xs.length c ∧ ok g ∧ g < w.heap.size ∧ xs.length ≤ c ∧ c ≤ 9223372036854775807 ∧ kI.C w (some ⟨g, 0, none⟩) xs.length xs ∧ ∀ i (hi : i < xs.length), w.cell? ⟨g, i, none⟩ = some (.int .i64 xs[i]) ∧ w.frozen? ⟨g, i, none⟩ = false := by
  have ho := Kd.own_of_R (h1 := fun _ => rfl) (enc := Value.int .i64) h
  obtain ⟨A, c, h1, h2, h3⟩ := Kd.R_reads h
  subst h1
  have hk := h.1
  rcases ho.2 with ⟨hv, h1⟩ | ⟨g, cap, cur, hv, hb, hh, hl⟩
  · omega
  · injection hv with e1 e2 e3
    subst e1 e3
    refine ⟨g, _, rfl, hk g rfl, (Array.getElem?_eq_some_iff.1 hh).1, h2, ?_, h3, fun i hi => ?_⟩
    · have := hl.2.1
      simpa [maxLen] using this
    · have := Kd.R_cell (h1 := fun _ => rfl) (0 : Int) h (i : Int) (by omega) (by omega)
      rw [Int.toNat_natCast] at this
      rwa [show rdOf 0 xs (i : Int) = xs[i] by unfold rdOf; rw [Int.toNat_natCast, List.getD_eq_getElem?_getD, List.getElem?_eq_getElem hi]; rfl] at this
theorem kI_new (w : World) (xs : List Int) (h : xs.length ≤ 9223372036854775807) : kI.C (w.alloc (.cells (xs.map (fun x => Value.int .i64 x)).toArray 3 (0, 0))) (some ⟨w.heap.size, 0, none⟩) xs.length xs := by
  refine Kd.C_of_reads (d := (0 : Int)) (h1 := fun _ => rfl) ⟨rfl, h, fun _ => ⟨_, rfl, fun j hj => ?_⟩⟩
  have := blk_cell (blk_new w (.cells (xs.map (fun x => Value.int .i64 x)).toArray 3 (0, 0))) j
  rw [show (⟨w.heap.size, 0, none⟩ : Addr).add j = ⟨w.heap.size, j, none⟩ from add_plain _ _]
  rw [this]
  simp [hj]
end
def f4 : List Nat := (List.range 76).filter fun k => decide (4 ≤ k)
theorem given_head : given (f4.drop 2) 4 76 [5, 4] = f4 := by decide +kernel
theorem may_a : MayGive (f4.drop 2) 4 76 [5, 4] := by unfold MayGive; decide +kernel
theorem may_b : ¬ MayGive f4 4 76 [4, 5] := by unfold MayGive; decide +kernel
theorem may_c : ¬ MayGive f4 4 76 [3] := by unfold MayGive; decide +kernel
theorem plHead13 : Plan (opsOf Try.f9 13) [] [0, 1, 2, 3, 4, 5, 6, 7, 8, 9, 11, 12, 10, 13, 14, 15, 16, 17, 18, 19, 20, 21, 22, 23, 24, 25, 26, 27, 28, 29, 30, 31, 32, 33, 35, 36, 34, 37, 38] [0, 0, 0, 0, 0, 0, 0, 0, 0, 0, 1, 0, 0, 1, 0, 0, 0, 0, 0, 0, 1, 2, 0, 0, 0, 0, 0, 0, 1, 2, 0, 0, 0, 0, 2, 0, 0, 0, 0] := plan_mk (true, [([], []), ([0], [0]), ([1], [1]), ([2], [2]), ([3, 2], [2, 3]), ([4, 2], [2, 4]), ([2, 5], [2, 5]), ([6, 2], [6]), ([7], [7]), ([8, 7], [7, 8]), ([9, 7], [7, 9]), ([7], [7]), ([11, 7], [7, 11]), ([12, 7], [7, 12]), ([10, 13, 7], [7, 10, 13]), ([7, 14], [7, 14]), ([15, 7], [15]), ([16], [16]), ([16], [16]), ([18, 16], [16, 18]), ([19, 16], [16, 19]), ([17, 20, 16, 16], [16, 17, 20]), ([21, 16], [16, 21]), ([16, 22], [16, 22]), ([23, 21], [23]), ([24], [24]), ([24], [24]), ([26, 24], [24, 26]), ([27, 24], [24, 27]), ([25, 28, 24, 24], [24, 25, 28]), ([29, 24], [24, 29]), ([24, 30], [24, 30]), ([31, 29], [31]), ([32], [32]), ([33, 32, 32], [32, 33]), ([32], [32]), ([35, 32], [32, 35]), ([34, 36, 32], [32, 34, 36]), ([32, 37], [32, 37])]) [0, 1, 3, 7, 15, 31, 63, 127, 255, 511, 1023, 255, 2303, 6399, 16383, 32767, 65535, 131071, 131071, 393215, 917503, 2097151, 4194303, 8388607, 16777215, 33554431, 33554431, 100663295, 234881023, 536870911, 1073741823, 2147483647, 4294967295, 8589934591, 17179869183, 8589934591, 42949672959, 137438953471, 274877906943] (by kernel_rfl) (by kernel_rfl) (by kernel_rfl)
theorem plHead15 : Plan (opsOf Try.f9 15) [] [0, 1, 2, 4, 5, 3, 6, 7, 8, 9, 10, 11, 13, 14, 12, 15, 16, 17, 18, 19, 20, 21, 22, 23, 24, 25, 26, 27, 28, 29] [0, 0, 0, 1, 0, 0, 1, 2, 2, 0, 0, 0, 2, 0, 0, 0, 0, 0, 0, 0, 2, 0, 0, 0, 0, 2, 2, 0, 0, 0] := plan_mk (true, [([], []), ([], []), ([1], [1]), ([2], [2]), ([], []), ([4], [4]), ([5], [5]), ([3, 6], [3, 6]), ([0, 7], [0, 7]), ([8], [8]), ([9, 8], [9]), ([10], [10]), ([11, 10, 10], [10, 11]), ([10], [10]), ([13, 10], [10, 13]), ([12, 14, 10], [10, 12, 14]), ([10, 15], [10, 15]), ([16, 12], [16]), ([17], [17]), ([17], [17]), ([18, 19, 17, 17], [17, 18, 19]), ([20, 17], [17, 20]), ([17, 21], [17, 21]), ([22, 20], [22]), ([23], [23]), ([23], [23]), ([24, 25, 23, 23], [23, 24, 25]), ([26, 23], [23, 26]), ([23, 27], [23, 27]), ([28, 26, 0, 1, 2, 3, 4, 5, 6, 7, 8, 9, 10, 11, 12, 13, 14, 15, 16, 17, 18, 19, 20, 21, 22, 23, 24, 25, 26, 27, 28], [28])]) [0, 0, 2, 6, 0, 16, 48, 126, 255, 511, 1023, 2047, 4095, 2047, 10239, 32767, 65535, 131071, 262143, 262143, 1048575, 2097151, 4194303, 8388607, 16777215, 16777215, 67108863, 134217727, 268435455, 536870911] (by kernel_rfl) (by kernel_rfl) (by kernel_rfl)
set_option maxRecDepth 100000 in
set_option maxHeartbeats 4000000 in
theorem head_any (w : World) : Calls Try.prog 9 #[] w fun e w' => e = .returned (.bool true) ∧ Below w.heap.size w w' := by
  have HM := Lib.hid (show Calls Try.prog 38 #[.int .i64 100] w (MadeP w 100) from made_any w 100 (by decide) (by decide))
  go_enter Try.func9, Try.ntmps9
  go_wp2_with fail
  (with_reducible refine HM.out.mono ?_)
  rintro e w2 ⟨bl, bd, F, rfl, hl2, hF2, hb2⟩
  have HB := Lib.hid (begin_any w2 bl)
  have HL := Lib.hid hl2
  have HF := Lib.hid hF2
  have HB2 := Lib.hid hb2
  clear hl2 hF2 hb2
  go_wp2_with fail
  (with_reducible refine HB.out.mono ?_)
  rintro e w3 ⟨bt, bm, rfl, ht, h1, h2, hb3⟩
  have HT := Lib.hid (begun_tx (by decide) (by decide) HL.out (fun k hk => (HF.out k hk).2) ht h1 h2 hb3)
  have hz := HB2.out.size
  have HLB := Lib.hid (HT.out.blocks)
  have HB3 := Lib.hid (below_then HB2.out hz hb3)
  have HFF : Hid (∀ k, F k → w.heap.size ≤ k ∧ k < w3.heap.size) := Lib.hid (fun k hk => ⟨(HF.out k hk).1, Nat.lt_of_lt_of_le (HF.out k hk).2 hb3.size⟩)
  have HLg := Lib.hid (lblocks_n w3 bl bd 100 F 76 HT.out.log (by decide) (by decide) (by decide))
  clear ht hb3
  go_wp2_with fail
  (with_reducible refine HLg.out.mono ?_)
  rintro e w4 ⟨rfl, hb4⟩
  have hb4s := hb4.size
  have HK := Lib.hid (show Calls Try.prog 39 #[.pointer (some ⟨bt, 0, none⟩), .int .i64 3] w4 (MadeS w4 w.heap.size bt bm bl bd 100 3 F) from make_ok w4 w.heap.size bt bm bl bd 100 3 F (HT.out.below hb4) (by decide) (by decide) (fun k hk => ⟨(HFF.out k hk).1, Nat.lt_of_lt_of_le (HFF.out k hk).2 hb4s⟩) (by omega) (by omega) (by decide))
  have HB4 := Lib.hid (below_then HB3.out HB3.out.size hb4)
  clear hb4
  go_wp2_with fail
  (with_reducible refine HK.out.mono ?_)
  rintro e w5 ⟨bs', rfl, hs, ⟨m, ht5⟩, htc⟩
  have hb4t := htc.size
  have HK2 := Lib.hid (show Calls Try.prog 39 #[.pointer (some ⟨bt, 0, none⟩), .int .i64 76] w5 _ from make_no w5 bt bm bl bd 100 76 m F ht5 (by decide) (by decide) (fun k hk => Nat.lt_of_lt_of_le (HFF.out k hk).2 (Nat.le_trans hb4s hb4t)) (by decide))
  have HS := Lib.hid (show SpSt w5 w.heap.size w5.heap.size bs' bt bm bl bd f4 4 76 from hs)
  have HB5 := Lib.hid (htc.below HB4.out HB4.out.size (fun k hk => by rcases hk with hk | hk <;> omega))
  clear hs ht5 htc
  go_wp2_with fail
  (with_reducible refine HK2.out.mono ?_)
  rintro e w6 ⟨rfl, hb6⟩
  have HB := Lib.hid hb6
  clear hb6
  go_wp2_with (first
    | (go_at_call 13; (with_reducible refine ((HS.out.below HB.out).left_is 72 (by decide +kernel)).mono ?_); rintro e w7 ⟨rfl, hb7⟩; have HB := Lib.hid (below_then HB.out HB.out.size hb7); clear hb7)
    | (go_at_call 15; (with_reducible refine ((HS.out.below HB.out).used_is 0 true (by decide +kernel)).mono ?_); rintro e w7 ⟨rfl, hb7⟩; have HB := Lib.hid (below_then HB.out HB.out.size hb7); clear hb7)
    | (go_at_call 15; (with_reducible refine ((HS.out.below HB.out).used_is 3 true (by decide +kernel)).mono ?_); rintro e w7 ⟨rfl, hb7⟩; have HB := Lib.hid (below_then HB.out HB.out.size hb7); clear hb7)
    | (go_at_call 15; (with_reducible refine ((HS.out.below HB.out).used_is 4 false (by decide +kernel)).mono ?_); rintro e w7 ⟨rfl, hb7⟩; have HB := Lib.hid (below_then HB.out HB.out.size hb7); clear hb7)
    | (go_at_call 15; (with_reducible refine ((HS.out.below HB.out).used_is 76 false (by decide +kernel)).mono ?_); rintro e w7 ⟨rfl, hb7⟩; have HB := Lib.hid (below_then HB.out HB.out.size hb7); clear hb7)
    | (go_at_call 15; (with_reducible refine ((HS.out.below HB.out).used_is (-1) false (by decide +kernel)).mono ?_); rintro e w7 ⟨rfl, hb7⟩; have HB := Lib.hid (below_then HB.out HB.out.size hb7); clear hb7))
  have hHB := HB.out.size
  have HA := Lib.hid (show Calls Try.prog 14 #[.pointer (some ⟨bs', 0, none⟩), .int .i64 2] _ _ from (HS.out.below HB.out).alloc 2 (by decide +kernel))
  have HB6 := Lib.hid (below_then HB5.out HB5.out.size HB.out)
  clear HB
  obtain ⟨_, _, _, _, _, f1, f2, f3, f5, f6, f7, f8⟩ := HS.out.facts
  go_wp2_with fail
  (with_reducible refine HA.out.mono ?_)
  rintro e w8 ⟨A, c, rfl, hrow, hs8, ht8⟩
  obtain ⟨g, c', hv, hg1, hg2, hc1, hc2, hC, hcl⟩ := kI_form hrow (by decide +kernel)
  obtain ⟨rfl, rfl⟩ : A = some ⟨g, 0, none⟩ ∧ c = c' := by
    injection hv with e1 e2 e3
    exact ⟨e1, e3⟩
  have hC : kI.C w8 (some ⟨g, 0, none⟩) 2 [4, 5] := hC
  have HS8 := Lib.hid (show SpSt w8 w.heap.size w5.heap.size bs' bt bm bl bd (f4.drop 2) 4 76 from hs8)
  have HB8 := Lib.hid (ht8.below HB6.out HB6.out.size (fun k hk => by rcases hk with hk | hk <;> omega))
  have HC := Lib.hid hC
  have c0 : w8.cell? ⟨g, 0, none⟩ = some (.int .i64 4) := (hcl 0 (by decide +kernel)).1
  have c1 : w8.cell? ⟨g, 1, none⟩ = some (.int .i64 5) := (hcl 1 (by decide +kernel)).1
  clear hrow hv hs8 hC ht8 hcl
  have HB := Lib.hid (below_drew (Below.refl w8.heap.size w8))
  have hw70 : wrap64 70 = 70 := by unfold wrap64; omega
  have hw72 : wrap64 72 = 72 := by unfold wrap64; omega
  go_wp2_with fail
  refine way_start (fun w' => w'.cell? ⟨g, 0, none⟩ = some (.int .i64 4) ∧ w'.cell? ⟨g, 1, none⟩ = some (.int .i64 5)) plHead13 (by kernel_rfl) rfl (⟨c0, c1⟩) (fun hHeld => ?_)
  repeat (first
    | (refine way_pure (v := undef) (a' := ?_) plHead13 rfl rfl rfl (fun _ _ _ h => h) (Or.inr ⟨by rfl, rfl⟩) ?_ ?_; rotate_left; (· (simp only [aw]; rfl)))
    | (refine way_pure (v := ?_) (a' := ?_) plHead13 rfl rfl rfl (fun _ _ _ h => h) (Or.inl ⟨by rfl, ?_⟩) ?_ ?_; rotate_left; (· (intro w'; go_simp; with_reducible rfl)); rotate_left; (· (simp only [aw]; rfl)))
    | (refine way_take (v := ?_) (a' := ?_) plHead13 rfl rfl rfl (fun _ _ _ h => h) (Or.inl ⟨by rfl, ?_⟩) hHeld ?_ ?_; rotate_left; (· (rintro w' ⟨s0, s1⟩; go_simp; with_reducible rfl)); rotate_left; (· (simp only [aw]; rfl))))
  refine way_one plHead13 rfl rfl rfl (fun K hK => ?_)
  refine goes_ Try.func15 (by kernel_rfl) rfl #[.pointer (some ⟨bs', 0, none⟩), .int .i64 4] (by rfl) rfl rfl (by simp only [List.map_toArray, List.map_cons, List.map_nil]; rfl) ?_
  with_reducible refine ((HS8.out.below HB.out).used_is 4 true (by decide +kernel)).mono ?_
  rintro e w9 ⟨rfl, hb⟩
  refine ⟨_, rfl, ?_⟩
  have HB := Lib.hid (below_then HB.out HB.out.size hb)
  refine hK.out _ _ ⟨pw_cell_below hb hHeld.1, pw_cell_below hb hHeld.2⟩ (fun hHeld => ?_)
  clear hK K
  refine way_norm (a' := ?_) ?_ ?_
  rotate_left
  · simp only [aw]
    rfl
  repeat (first
    | (refine way_pure (v := undef) (a' := ?_) plHead13 rfl rfl rfl (fun _ _ _ h => h) (Or.inr ⟨by rfl, rfl⟩) ?_ ?_; rotate_left; (· (simp only [aw]; rfl)))
    | (refine way_pure (v := ?_) (a' := ?_) plHead13 rfl rfl rfl (fun _ _ _ h => h) (Or.inl ⟨by rfl, ?_⟩) ?_ ?_; rotate_left; (· (intro w'; go_simp; with_reducible rfl)); rotate_left; (· (simp only [aw]; rfl)))
    | (refine way_take (v := ?_) (a' := ?_) plHead13 rfl rfl rfl (fun _ _ _ h => h) (Or.inl ⟨by rfl, ?_⟩) hHeld ?_ ?_; rotate_left; (· (rintro w' ⟨s0, s1⟩; go_simp; with_reducible rfl)); rotate_left; (· (simp only [aw]; rfl))))
  refine way_one plHead13 rfl rfl rfl (fun K hK => ?_)
  refine goes_ Try.func15 (by kernel_rfl) rfl #[.pointer (some ⟨bs', 0, none⟩), .int .i64 5] (by rfl) rfl rfl (by simp only [List.map_toArray, List.map_cons, List.map_nil]; rfl) ?_
  with_reducible refine ((HS8.out.below HB.out).used_is 5 true (by decide +kernel)).mono ?_
  rintro e w10 ⟨rfl, hb⟩
  refine ⟨_, rfl, ?_⟩
  have HB := Lib.hid (below_then HB.out HB.out.size hb)
  refine hK.out _ _ ⟨pw_cell_below hb hHeld.1, pw_cell_below hb hHeld.2⟩ (fun hHeld => ?_)
  clear hK K
  refine way_norm (a' := ?_) ?_ ?_
  rotate_left
  · simp only [aw]
    rfl
  repeat (first
    | (refine way_pure (v := undef) (a' := ?_) plHead13 rfl rfl rfl (fun _ _ _ h => h) (Or.inr ⟨by rfl, rfl⟩) ?_ ?_; rotate_left; (· (simp only [aw]; rfl)))
    | (refine way_pure (v := ?_) (a' := ?_) plHead13 rfl rfl rfl (fun _ _ _ h => h) (Or.inl ⟨by rfl, ?_⟩) ?_ ?_; rotate_left; (· (intro w'; go_simp; with_reducible rfl)); rotate_left; (· (simp only [aw]; rfl)))
    | (refine way_take (v := ?_) (a' := ?_) plHead13 rfl rfl rfl (fun _ _ _ h => h) (Or.inl ⟨by rfl, ?_⟩) hHeld ?_ ?_; rotate_left; (· (rintro w' ⟨s0, s1⟩; go_simp; with_reducible rfl)); rotate_left; (· (simp only [aw]; rfl))))
  refine way_one plHead13 rfl rfl rfl (fun K hK => ?_)
  refine goes_ Try.func13 (by kernel_rfl) rfl #[.pointer (some ⟨bs', 0, none⟩)] (by rfl) rfl rfl (by simp only [List.map_toArray, List.map_cons, List.map_nil]; rfl) ?_
  with_reducible refine ((HS8.out.below HB.out).left_is 70 (by decide +kernel)).mono ?_
  rintro e w11 ⟨rfl, hb⟩
  refine ⟨_, rfl, ?_⟩
  have HB := Lib.hid (below_then HB.out HB.out.size hb)
  refine hK.out _ _ ⟨pw_cell_below hb hHeld.1, pw_cell_below hb hHeld.2⟩ (fun hHeld => ?_)
  clear hK K
  refine way_norm (a' := ?_) ?_ ?_
  rotate_left
  · simp only [aw]
    rfl
  repeat (first
    | (refine way_pure (v := undef) (a' := ?_) plHead13 rfl rfl rfl (fun _ _ _ h => h) (Or.inr ⟨by rfl, rfl⟩) ?_ ?_; rotate_left; (· (simp only [aw]; rfl)))
    | (refine way_pure (v := ?_) (a' := ?_) plHead13 rfl rfl rfl (fun _ _ _ h => h) (Or.inl ⟨by rfl, ?_⟩) ?_ ?_; rotate_left; (· (intro w'; go_simp; with_reducible rfl)); rotate_left; (· (simp only [aw]; rfl)))
    | (refine way_take (v := ?_) (a' := ?_) plHead13 rfl rfl rfl (fun _ _ _ h => h) (Or.inl ⟨by rfl, ?_⟩) hHeld ?_ ?_; rotate_left; (· (rintro w' ⟨s0, s1⟩; go_simp; with_reducible rfl)); rotate_left; (· (simp only [aw]; rfl))))
  refine way_done plHead13 rfl (by decide) ?_
  have HS9 := Lib.hid (HS8.out.below (HB.out.trans ((below_drew (Below.refl _ w11)).mono HB.out.size)))
  have HC9 := Lib.hid (Kd.C_below HC.out (HB.out.trans ((below_drew (Below.refl _ w11)).mono HB.out.size)))
  have HB9 := Lib.hid (below_drew (below_then HB8.out HB8.out.size HB.out))
  clear HB
  have HB := Lib.hid (Below.refl w11.drew.heap.size w11.drew)
  obtain ⟨hHa, hHb⟩ := hHeld
  go_wp2_with fail
  refine way_start (fun w' => w'.cell? ⟨g, 0, none⟩ = some (.int .i64 4) ∧ w'.cell? ⟨g, 1, none⟩ = some (.int .i64 5)) plHead15 (by kernel_rfl) rfl (⟨hHa, hHb⟩) (fun hHeld => ?_)
  repeat (first
    | (refine way_pure (v := undef) (a' := ?_) plHead15 rfl rfl rfl (fun _ _ _ h => h) (Or.inr ⟨by rfl, rfl⟩) ?_ ?_; rotate_left; (· (simp only [aw]; rfl)))
    | (refine way_pure (v := ?_) (a' := ?_) plHead15 rfl rfl rfl (fun _ _ _ h => h) (Or.inl ⟨by rfl, ?_⟩) ?_ ?_; rotate_left; (· (intro w'; go_simp; with_reducible rfl)); rotate_left; (· (simp only [aw]; rfl)))
    | (refine way_take (v := ?_) (a' := ?_) plHead15 rfl rfl rfl (fun _ _ _ h => h) (Or.inl ⟨by rfl, ?_⟩) hHeld ?_ ?_; rotate_left; (· (rintro w' ⟨s0, s1⟩; go_simp; with_reducible rfl)); rotate_left; (· (simp only [aw]; rfl))))
  refine way_one plHead15 rfl rfl rfl (fun K hK => ?_)
  refine event_step (v := .slice (some ⟨(w11.drew).heap.size, 0, none⟩) 2 2) (w1 := (w11.drew).alloc (.cells #[.int .i64 5, .int .i64 4] 3 (0, 0))) (by rfl) (by first | (go_simp; done) | (go_simp; rfl)) ?_
  refine hK.out _ _ ⟨pw_cell_below (below_alloc (Below.refl _ _) _) hHeld.1, pw_cell_below (below_alloc (Below.refl _ _) _) hHeld.2⟩ (fun hHeld => ?_)
  clear hK K
  refine way_norm (a' := ?_) ?_ ?_
  rotate_left
  · simp only [aw]
    rfl
  repeat (first
    | (refine way_pure (v := undef) (a' := ?_) plHead15 rfl rfl rfl (fun _ _ _ h => h) (Or.inr ⟨by rfl, rfl⟩) ?_ ?_; rotate_left; (· (simp only [aw]; rfl)))
    | (refine way_pure (v := ?_) (a' := ?_) plHead15 rfl rfl rfl (fun _ _ _ h => h) (Or.inl ⟨by rfl, ?_⟩) ?_ ?_; rotate_left; (· (intro w'; go_simp; with_reducible rfl)); rotate_left; (· (simp only [aw]; rfl)))
    | (refine way_take (v := ?_) (a' := ?_) plHead15 rfl rfl rfl (fun _ _ _ h => h) (Or.inl ⟨by rfl, ?_⟩) hHeld ?_ ?_; rotate_left; (· (rintro w' ⟨s0, s1⟩; go_simp; with_reducible rfl)); rotate_left; (· (simp only [aw]; rfl))))
  have HF1 := Lib.hid ((HS9.out.below (below_alloc (Below.refl _ _) (.cells #[.int .i64 5, .int .i64 4] 3 (0, 0)))).gives [5, 4] 2 _ 2 rfl (kI_new _ [5, 4] (by decide)) may_a f4 given_head)
  have hG : ∀ q, q = bt ∨ q = bm → ¬ q = g := fun q hq => by rcases hq with hq | hq <;> omega
  have hBT := HB9.out.size
  refine way_one plHead15 rfl rfl rfl (fun K hK => ?_)
  refine goes_ Try.func16 (by kernel_rfl) rfl #[.pointer (some ⟨bs', 0, none⟩), .slice (some ⟨w11.drew.heap.size, 0, none⟩) 2 2] (by rfl) rfl rfl (by simp only [List.map_toArray, List.map_cons, List.map_nil]; rfl) ?_
  with_reducible refine (HF1.out).mono ?_
  rintro e w12 ⟨rfl, hs, ht⟩
  refine ⟨_, rfl, ?_⟩
  have HS12 := Lib.hid hs
  have HT12 := Lib.hid (ht.below (below_alloc HB9.out _) (Nat.le_trans HB9.out.size (below_alloc (Below.refl _ _) _).size) (fun k hk => hk.elim (fun hk => by omega) (fun hk => by omega)))
  have HC12 := Lib.hid (show kI.C w12 _ _ _ from ReadsRow_touch HC9.out ((Touch.of (below_alloc (Below.refl _ _) _)).same ht) (fun a ha _ hk => hG _ hk (by cases ha; rfl)))
  refine hK.out _ _ ⟨ht.cell hHeld.1 (fun hq => hG _ hq rfl), ht.cell hHeld.2 (fun hq => hG _ hq rfl)⟩ (fun hHeld => ?_)
  clear hK K
  refine way_norm (a' := ?_) ?_ ?_
  rotate_left
  · simp only [aw]
    rfl
  repeat (first
    | (refine way_pure (v := undef) (a' := ?_) plHead15 rfl rfl rfl (fun _ _ _ h => h) (Or.inr ⟨by rfl, rfl⟩) ?_ ?_; rotate_left; (· (simp only [aw]; rfl)))
    | (refine way_pure (v := ?_) (a' := ?_) plHead15 rfl rfl rfl (fun _ _ _ h => h) (Or.inl ⟨by rfl, ?_⟩) ?_ ?_; rotate_left; (· (intro w'; go_simp; with_reducible rfl)); rotate_left; (· (simp only [aw]; rfl)))
    | (refine way_take (v := ?_) (a' := ?_) plHead15 rfl rfl rfl (fun _ _ _ h => h) (Or.inl ⟨by rfl, ?_⟩) hHeld ?_ ?_; rotate_left; (· (rintro w' ⟨s0, s1⟩; go_simp; with_reducible rfl)); rotate_left; (· (simp only [aw]; rfl))))
  clear HB
  have HB := Lib.hid (Below.refl w12.heap.size w12)
  refine way_one plHead15 rfl rfl rfl (fun K hK => ?_)
  refine goes_ Try.func13 (by kernel_rfl) rfl #[.pointer (some ⟨bs', 0, none⟩)] (by rfl) rfl rfl (by simp only [List.map_toArray, List.map_cons, List.map_nil]; rfl) ?_
  with_reducible refine ((HS12.out.below HB.out).left_is 72 (by decide +kernel)).mono ?_
  rintro e w13 ⟨rfl, hb⟩
  refine ⟨_, rfl, ?_⟩
  have HB := Lib.hid (below_then HB.out HB.out.size hb)
  refine hK.out _ _ ⟨pw_cell_below hb hHeld.1, pw_cell_below hb hHeld.2⟩ (fun hHeld => ?_)
  clear hK K
  refine way_norm (a' := ?_) ?_ ?_
  rotate_left
  · simp only [aw]
    rfl
  repeat (first
    | (refine way_pure (v := undef) (a' := ?_) plHead15 rfl rfl rfl (fun _ _ _ h => h) (Or.inr ⟨by rfl, rfl⟩) ?_ ?_; rotate_left; (· (simp only [aw]; rfl)))
    | (refine way_pure (v := ?_) (a' := ?_) plHead15 rfl rfl rfl (fun _ _ _ h => h) (Or.inl ⟨by rfl, ?_⟩) ?_ ?_; rotate_left; (· (intro w'; go_simp; with_reducible rfl)); rotate_left; (· (simp only [aw]; rfl)))
    | (refine way_take (v := ?_) (a' := ?_) plHead15 rfl rfl rfl (fun _ _ _ h => h) (Or.inl ⟨by rfl, ?_⟩) hHeld ?_ ?_; rotate_left; (· (rintro w' ⟨s0, s1⟩; go_simp; with_reducible rfl)); rotate_left; (· (simp only [aw]; rfl))))
  refine way_one plHead15 rfl rfl rfl (fun K hK => ?_)
  refine goes_ Try.func16 (by kernel_rfl) rfl #[.pointer (some ⟨bs', 0, none⟩), .slice (some ⟨g, 0, none⟩) 2 c] (by rfl) rfl rfl (by simp only [List.map_toArray, List.map_cons, List.map_nil]; rfl) ?_
  with_reducible refine ((HS12.out.below HB.out).gives_no [4, 5] 2 _ c rfl (Kd.C_below HC12.out HB.out) may_b).mono ?_
  rintro e w14 ⟨rfl, hb⟩
  refine ⟨_, rfl, ?_⟩
  have HB := Lib.hid (below_then HB.out HB.out.size hb)
  refine hK.out _ _ ⟨pw_cell_below hb hHeld.1, pw_cell_below hb hHeld.2⟩ (fun hHeld => ?_)
  clear hK K
  refine way_norm (a' := ?_) ?_ ?_
  rotate_left
  · simp only [aw]
    rfl
  repeat (first
    | (refine way_pure (v := undef) (a' := ?_) plHead15 rfl rfl rfl (fun _ _ _ h => h) (Or.inr ⟨by rfl, rfl⟩) ?_ ?_; rotate_left; (· (simp only [aw]; rfl)))
    | (refine way_pure (v := ?_) (a' := ?_) plHead15 rfl rfl rfl (fun _ _ _ h => h) (Or.inl ⟨by rfl, ?_⟩) ?_ ?_; rotate_left; (· (intro w'; go_simp; with_reducible rfl)); rotate_left; (· (simp only [aw]; rfl)))
    | (refine way_take (v := ?_) (a' := ?_) plHead15 rfl rfl rfl (fun _ _ _ h => h) (Or.inl ⟨by rfl, ?_⟩) hHeld ?_ ?_; rotate_left; (· (rintro w' ⟨s0, s1⟩; go_simp; with_reducible rfl)); rotate_left; (· (simp only [aw]; rfl))))
  refine way_one plHead15 rfl rfl rfl (fun K hK => ?_)
  refine event_step (v := .slice (some ⟨(w14).heap.size, 0, none⟩) 1 1) (w1 := (w14).alloc (.cells #[.int .i64 3] 3 (0, 0))) (by rfl) (by first | (go_simp; done) | (go_simp; rfl)) ?_
  refine hK.out _ _ ⟨pw_cell_below (below_alloc (Below.refl _ _) _) hHeld.1, pw_cell_below (below_alloc (Below.refl _ _) _) hHeld.2⟩ (fun hHeld => ?_)
  clear hK K
  refine way_norm (a' := ?_) ?_ ?_
  rotate_left
  · simp only [aw]
    rfl
  repeat (first
    | (refine way_pure (v := undef) (a' := ?_) plHead15 rfl rfl rfl (fun _ _ _ h => h) (Or.inr ⟨by rfl, rfl⟩) ?_ ?_; rotate_left; (· (simp only [aw]; rfl)))
    | (refine way_pure (v := ?_) (a' := ?_) plHead15 rfl rfl rfl (fun _ _ _ h => h) (Or.inl ⟨by rfl, ?_⟩) ?_ ?_; rotate_left; (· (intro w'; go_simp; with_reducible rfl)); rotate_left; (· (simp only [aw]; rfl)))
    | (refine way_take (v := ?_) (a' := ?_) plHead15 rfl rfl rfl (fun _ _ _ h => h) (Or.inl ⟨by rfl, ?_⟩) hHeld ?_ ?_; rotate_left; (· (rintro w' ⟨s0, s1⟩; go_simp; with_reducible rfl)); rotate_left; (· (simp only [aw]; rfl))))
  refine way_one plHead15 rfl rfl rfl (fun K hK => ?_)
  refine goes_ Try.func16 (by kernel_rfl) rfl #[.pointer (some ⟨bs', 0, none⟩), .slice (some ⟨w14.heap.size, 0, none⟩) 1 1] (by rfl) rfl rfl (by simp only [List.map_toArray, List.map_cons, List.map_nil]; rfl) ?_
  with_reducible refine ((HS12.out.below (HB.out.trans ((below_alloc (Below.refl _ _) _).mono HB.out.size))).gives_no [3] 1 _ 1 rfl (kI_new _ [3] (by decide)) may_c).mono ?_
  rintro e w15 ⟨rfl, hb⟩
  refine ⟨_, rfl, ?_⟩
  have HB := Lib.hid (below_then HB.out HB.out.size ((below_alloc (Below.refl _ _) _).trans (hb.mono (below_alloc (Below.refl _ _) _).size)))
  refine hK.out _ _ ⟨pw_cell_below hb hHeld.1, pw_cell_below hb hHeld.2⟩ (fun hHeld => ?_)
  clear hK K
  refine way_norm (a' := ?_) ?_ ?_
  rotate_left
  · simp only [aw]
    rfl
  repeat (first
    | (refine way_pure (v := undef) (a' := ?_) plHead15 rfl rfl rfl (fun _ _ _ h => h) (Or.inr ⟨by rfl, rfl⟩) ?_ ?_; rotate_left; (· (simp only [aw]; rfl)))
    | (refine way_pure (v := ?_) (a' := ?_) plHead15 rfl rfl rfl (fun _ _ _ h => h) (Or.inl ⟨by rfl, ?_⟩) ?_ ?_; rotate_left; (· (intro w'; go_simp; with_reducible rfl)); rotate_left; (· (simp only [aw]; rfl)))
    | (refine way_take (v := ?_) (a' := ?_) plHead15 rfl rfl rfl (fun _ _ _ h => h) (Or.inl ⟨by rfl, ?_⟩) hHeld ?_ ?_; rotate_left; (· (rintro w' ⟨s0, s1⟩; go_simp; with_reducible rfl)); rotate_left; (· (simp only [aw]; rfl))))
  refine way_done plHead15 rfl (by decide) ?_
  go_wp2
  go_ret
  exact ⟨rfl, HT12.out.trans (HB.out.mono HT12.out.size)⟩
end Go.Proofs.Ythijhmidmhgfaaa

set_option linter.unusedVariables false
set_option linter.unusedSimpArgs false
namespace Go.Proofs.Ythijhmidmhgfaaa
open Go.RowKit Go.Proofs.YthijhmidmhgfaaaW.PrintWords Go.Proofs.YthijhmidmhgfaaaW.PrintLast Go.Maps Go.ChangeMaps
abbrev kBo : Kd Bool := Kd.bool
/-- which blocks the law has seen -/
def seenL (k q : Nat) : List Bool := (List.range 96).map fun x => decide (k + 1 ≤ x ∧ x < k + 1 + q)
theorem seenL_len (k q : Nat) : (seenL k q).length = 96 := by simp [seenL]
theorem seenL_at (k q x : Nat) (h : x < 96) : (seenL k q).getD x false = decide (k + 1 ≤ x ∧ x < k + 1 + q) := by
  simp [seenL, List.getD_eq_getElem?_getD, h]
theorem seenL_set (k q : Nat) : (seenL k q).set (k + 1 + q) true = seenL k (q + 1) := by
  refine List.ext_getElem (by simp [seenL]) (fun i h1 h2 => ?_)
  rw [List.getElem_set]
  simp only [seenL, List.getElem_map, List.getElem_range]
  by_cases h : k + 1 + q = i
  · rw [if_pos h]
    symm
    rw [decide_eq_true_iff]
    omega
  · rw [if_neg h]
    congr 1
    rw [eq_iff_iff]
    omega
theorem take_range (a : Nat) : ∀ (n m : Nat), m ≤ n → (List.range' a n).take m = List.range' a m := by
  intro n m h
  refine List.ext_getElem (by simp; omega) (fun i h1 h2 => ?_)
  simp
theorem drop_range (a : Nat) : ∀ (n m : Nat), (List.range' a n).drop m = List.range' (a + m) (n - m) := by
  intro n m
  refine List.ext_getElem (by simp) (fun i h1 h2 => ?_)
  simp
/-- what the law holds at world w: f is free, qn are seen, qa are in the list -/
structure SA (w0 w : World) (B T bs' bt bm bl bd gs k : Nat) (f : List Nat) (qn qa : Nat) (vA : Value) : Prop where
  below : Below w0.heap.size w0 w
  b0 : w0.heap.size ≤ B
  sp : SpSt w B T bs' bt bm bl bd f (k + 1) 96
  seen : kBo.R 4 w 0 (fun x => x = gs) (.slice (some ⟨gs, 0, none⟩) 96 96) (seenL k qn)
  all : kI.R 3 w 0 (fun x => T ≤ x ∧ x ≠ gs) vA (ints (List.range' (k + 1) qa))
  gs0 : T ≤ gs
  gs1 : gs < w.heap.size
section
variable {w0 w w1 : World} {B T bs' bt bm bl bd gs k qn qa : Nat} {f f1 : List Nat} {vA vA1 : Value}
theorem SA.step (h : SA w0 w B T bs' bt bm bl bd gs k f qn qa vA) (hb : Below w.heap.size w w1) : SA w0 w1 B T bs' bt bm bl bd gs k f qn qa vA :=
  ⟨below_then h.below h.below.size hb, h.b0, h.sp.below hb, Kd.R_below h.seen hb, Kd.R_below h.all hb, h.gs0, Nat.lt_of_lt_of_le h.gs1 hb.size⟩
theorem SA.turn (h : SA w0 w B T bs' bt bm bl bd gs k f qn qa vA) (hs : SpSt w1 B T bs' bt bm bl bd f1 (k + 1) 96) (ht : Touch (fun k => k = bt ∨ k = bm) w w1) : SA w0 w1 B T bs' bt bm bl bd gs k f1 qn qa vA := by
  obtain ⟨_, _, _, _, _, f1, f2, f3, f5, f6, f7, f8⟩ := h.sp.facts
  have h1 := h.below
  have h2 := h.b0
  have h3 := h.gs0
  exact ⟨ht.below h1 h1.size (fun x hx => by rcases hx with hx | hx <;> omega), h2, hs, Kd.R_touch h.seen ht (fun x hx hq => by rcases hq with hq | hq <;> omega), Kd.R_touch h.all ht (fun x hx hq => by rcases hq with hq | hq <;> omega), h3, Nat.lt_of_lt_of_le h.gs1 ht.size⟩
theorem SA.cell (h : SA w0 w B T bs' bt bm bl bd gs k f qn qa vA) (X : Nat) (hX : X < 96) : w.cell? ⟨gs, X, none⟩ = some (.bool (decide (k + 1 ≤ X ∧ X < k + 1 + qn))) ∧ w.frozen? ⟨gs, X, none⟩ = false := by
  have hs : (Value.slice (some ⟨gs, 0, none⟩) 96 96) = .slice (some ⟨gs, 0, none⟩) (seenL k qn).length 96 := by rw [seenL_len]
  have hp := Kd.R_cell (enc := Value.bool) (h1 := fun _ => rfl) false (hs ▸ h.seen) (X : Int) (Int.natCast_nonneg _) (by rw [seenL_len]; omega)
  rw [Int.toNat_natCast] at hp
  refine ⟨hp.1.trans ?_, hp.2⟩
  have := seenL_at k qn X hX
  unfold rdOf
  rw [Int.toNat_natCast, this]
theorem SA.mark (h : SA w0 w B T bs' bt bm bl bd gs k f qn qa vA) (X : Nat) (hX : X = k + 1 + qn) : SA w0 (w.setCell ⟨gs, X, none⟩ (.bool true)) B T bs' bt bm bl bd gs k f (qn + 1) qa vA := by
  have h1 := h.below
  have h2 := h.b0
  have h3 := h.gs0
  obtain ⟨_, _, _, _, _, f1, f2, f3, f5, f6, f7, f8⟩ := h.sp.facts
  have ht : Touch (fun k => k = gs) w (w.setCell ⟨gs, X, none⟩ (.bool true)) := (Touch.refl _ _).put X _
  have hs : (Value.slice (some ⟨gs, 0, none⟩) 96 96) = .slice (some ⟨gs, 0, none⟩) (seenL k qn).length 96 := by rw [seenL_len]
  have hp := Kd.R_put (enc := Value.bool) (h1 := fun _ => rfl) (hs ▸ h.seen) (X : Int) true
  rw [Int.toNat_natCast, seenL_len] at hp
  refine ⟨ht.below h1 h1.size (fun x hx => by omega), h2, h.sp.move ht (fun x hx => .inr (by omega)), ?_, Kd.R_touch h.all ht (fun x hx hq => hx.2 hq), h3, Nat.lt_of_lt_of_le h.gs1 ht.size⟩
  rw [← seenL_set, ← hX]
  exact hp.1
theorem SA.same (h : SA w0 w B T bs' bt bm bl bd gs k f qn qa vA) (hf : f = f1) : SA w0 w B T bs' bt bm bl bd gs k f1 qn qa vA := by
  subst hf
  exact h
end
end Go.Proofs.Ythijhmidmhgfaaa

set_option linter.unusedVariables false
set_option linter.unusedSimpArgs false
namespace Go.Proofs.Ythijhmidmhgfaaa
theorem free73 : (List.range 76).filter (fun x => decide (2 + 1 ≤ x)) = List.range' 3 73 := by decide +kernel
theorem given_none (M : Nat) (h : M < 31) : given (List.range' (3 + M) (73 - M)) 3 76 [] = List.range' (3 + M) (73 - M) := by
  have : ∀ M, M < 31 → given (List.range' (3 + M) (73 - M)) 3 76 [] = List.range' (3 + M) (73 - M) := by decide +kernel
  exact this M h
theorem given_back (M : Nat) (h : M < 31) : given (List.range' (3 + M) (73 - M)) 3 76 (ints (List.range' 3 M)) = List.range' 3 73 := by
  have : ∀ M, M < 31 → given (List.range' (3 + M) (73 - M)) 3 76 (ints (List.range' 3 M)) = List.range' 3 73 := by decide +kernel
  exact this M h
theorem may_none (f : List Nat) (lo N : Nat) : MayGive f lo N [] := ⟨fun x hx => absurd hx (by simp), List.nodup_nil⟩
theorem may_back (M : Nat) (h : M < 31) : MayGive (List.range' (3 + M) (73 - M)) 3 76 (ints (List.range' 3 M)) := by
  have : ∀ M, M < 31 → MayGive (List.range' (3 + M) (73 - M)) 3 76 (ints (List.range' 3 M)) := by unfold MayGive; decide +kernel
  exact this M h
/-- with any number among them they may not be given back -/
theorem may_not (M : Nat) (h : M < 31) (X : Int) (k : Nat) : ¬ MayGive (List.range' (3 + M) (73 - M)) 3 76 ((ints (List.range' 3 M)).take k ++ [X] ++ (ints (List.range' 3 M)).drop k) := by
  rintro ⟨h1, h2⟩
  obtain ⟨a, b, c⟩ := h1 X (by simp)
  rw [List.mem_range'_1] at c
  have hx : X ∈ ints (List.range' 3 M) := by
    unfold ints
    rw [List.mem_map]
    exact ⟨X.toNat, by rw [List.mem_range'_1]; omega, by omega⟩
  rw [← List.take_append_drop k (ints (List.range' 3 M)), List.mem_append] at hx
  rw [List.append_assoc, List.nodup_append] at h2
  rcases hx with hx | hx
  · exact h2.2.2 X hx X (by simp) rfl
  · have h3 := h2.2.1
    rw [List.singleton_append, List.nodup_cons] at h3
    exact h3.1 hx
open Go.RowKit Go.Proofs.YthijhmidmhgfaaaW.PrintWords Go.Proofs.YthijhmidmhgfaaaW.PrintLast Go.Maps Go.ChangeMaps
theorem kI_take {w : World} {A : Option Addr} {n : Nat} {xs : List Int} (h : kI.C w A n xs) (j : Nat) (hj : j ≤ n) : kI.C w A j (xs.take j) := by
  have hr := Kd.reads_of_C (enc := Value.int .i64) (d := (0 : Int)) (h1 := fun _ => rfl) h
  refine Kd.C_of_reads (d := (0 : Int)) (h1 := fun _ => rfl) ⟨by rw [List.length_take, hr.1]; omega, by have := hr.2.1; omega, fun hn => ?_⟩
  obtain ⟨ad, e, hc⟩ := hr.2.2 (by omega)
  refine ⟨ad, e, fun i hi => ?_⟩
  have := hc i (by omega)
  rwa [List.getD_eq_getElem?_getD, List.getElem?_take_of_lt hi, ← List.getD_eq_getElem?_getD]
theorem kI_drop {w : World} {g n : Nat} {xs : List Int} (h : kI.C w (some ⟨g, 0, none⟩) n xs) (j : Nat) (hj : j ≤ n) : kI.C w (some ⟨g, j, none⟩) (n - j) (xs.drop j) := by
  have hr := Kd.reads_of_C (enc := Value.int .i64) (d := (0 : Int)) (h1 := fun _ => rfl) h
  refine Kd.C_of_reads (d := (0 : Int)) (h1 := fun _ => rfl) ⟨by rw [List.length_drop, hr.1], by have := hr.2.1; omega, fun hn => ?_⟩
  obtain ⟨ad, e, hc⟩ := hr.2.2 (by omega)
  injection e with e
  subst e
  refine ⟨_, rfl, fun i hi => ?_⟩
  have := hc (j + i) (by omega)
  rw [add_plain] at this
  rwa [add_at, List.getD_eq_getElem?_getD, List.getElem?_drop, ← List.getD_eq_getElem?_getD]
theorem kI_dropc {w : World} {g n c : Nat} {xs : List Int} (h : kI.C w (some ⟨g, 0, none⟩) n xs) (j : Nat) (hj : j ≤ n) (hc : n ≤ c) : kI.C w (if c = j then some ⟨g, 0, none⟩ else some ⟨g, j, none⟩) (n - j) (xs.drop j) := by
  split
  · have h1 := h.1
    obtain rfl : n = j := by omega
    rw [Nat.sub_self, ← h1, List.drop_length]
    exact ⟨rfl, Nat.zero_le _, fun hn => absurd hn (Nat.lt_irrefl _)⟩
  · exact kI_drop h j hj
theorem grown_below {w8 W w1 : World} {e : Nat} {v : Value} {xs : List Int} (h : kI.R e W 0 (fun x => w8.heap.size ≤ x) v xs) (hg : W.grownBy w1 v.ownBlock) (hb : Below w8.heap.size w8 W) : Below w8.heap.size w8 w1 :=
  (grow_touch h hg (fun _ hx => hx)).below hb hb.size (fun _ hx => hx)
end Go.Proofs.Ythijhmidmhgfaaa

set_option linter.unusedVariables false
set_option linter.unusedSimpArgs false
namespace Go.Proofs.Ythijhmidmhgfaaa
open Go.RowKit Go.Proofs.YthijhmidmhgfaaaW.PrintWords Go.Proofs.YthijhmidmhgfaaaW.PrintLast Go.Maps Go.ChangeMaps
theorem SpSt.blocks_is {w : World} {B T bs' bt bm bl bd : Nat} {f : List Nat} {lo N : Nat} (h : SpSt w B T bs' bt bm bl bd f lo N) (v : Int) (hv : (N : Int) = v) : Calls Try.prog 12 #[.pointer (some ⟨bl, 0, none⟩)] w fun e w' => e = .returned (.int .i64 v) ∧ Below w.heap.size w w' := by
  obtain ⟨m, F, size, d, first, h1, h2, h3, h4, h5, h6⟩ := h
  have a1 := h1.ok.s1
  have a2 := h1.ok.len
  have := lblocks w bl bd F size false d h1.ok.log h1.ok.len h1.ok.s0 (by omega)
  rwa [show (d.seen.length : Int) - size = (N : Int) from h3, hv] at this
set_option maxRecDepth 100000 in
set_option maxHeartbeats 4000000 in
theorem spaceFrees_any (w : World) (n bad : Int) (tw : Bool) (att : Int) (h0 : -9223372036854775808 ≤ n ∧ n ≤ 9223372036854775807) (h1 : -9223372036854775808 ≤ bad ∧ bad ≤ 9223372036854775807) (h2 : -9223372036854775808 ≤ att ∧ att ≤ 9223372036854775807) :
    Calls Try.prog 4 #[.int .i64 n, .int .i64 bad, .bool tw, .int .i64 att] w fun e w' => e = .returned (.bool true) ∧ Below w.heap.size w w' := by
  have HH := Lib.hid (head_any w)
  go_enter Try.func4, Try.ntmps4
  go_wp2_with fail
  (with_reducible refine HH.out.mono ?_)
  rintro e w2 ⟨rfl, hb2⟩
  have HB2 := Lib.hid hb2
  have HBg := Lib.hid (show Calls Try.prog 11 #[.int .i64 100, .int .i64 2] w2 (BegP w2 100 2) from begun_any w2 100 2 (by decide) (by decide) (by decide))
  clear hb2 HH
  go_wp2_with fail
  (with_reducible refine HBg.out.mono ?_)
  rintro e w3 ⟨bs', bt, bm, bl, bd, rfl, hs, ⟨F, hlg⟩, hb3⟩
  have HS3 : Hid (SpSt w3 w2.heap.size w3.heap.size bs' bt bm bl bd (List.range' 3 73) 3 76) := Lib.hid (by
    have hs2 := hs
    rw [show 100 - 24 = 76 from rfl, free73] at hs2
    exact hs2)
  have HLg := Lib.hid hlg
  have HB3 := Lib.hid (below_then HB2.out HB2.out.size hb3)
  have hz2 : w.heap.size ≤ w2.heap.size := HB2.out.size
  have HL := Lib.hid (show Calls Try.prog 10 #[.int .i64 n, .int .i64 30] w3 _ from least_any w3 n 30 (by decide) (by decide) h0.1 h0.2)
  obtain ⟨m0, hm0⟩ := Int.eq_ofNat_of_zero_le (Int.emod_nonneg n (show ((30 : Nat) : Int) ≠ 0 by decide))
  have hm30 : m0 < 30 := by have := Int.emod_lt_of_pos n (show (0 : Int) < ((30 : Nat) : Int) by decide); omega
  have hm30i : (m0 : Int) < 30 := by omega
  rw [hm0] at HL
  have HA := fun w' (hb : Below w3.heap.size w3 w') => Lib.hid (show Calls Try.prog 14 #[.pointer (some ⟨bs', 0, none⟩), .int .i64 (1 + (m0 : Int))] w' (AllocQ w' w2.heap.size w3.heap.size bs' bt bm bl bd (List.range' 3 73) 3 76 (1 + m0)) from by
    have := (HS3.out.below hb).alloc (1 + m0) (by simp; omega)
    rwa [show ((1 + m0 : Nat) : Int) = 1 + (m0 : Int) by omega] at this)
  clear hs hlg hb3 HBg hm0 HB2
  go_wp2_with (go_at_call 10; (with_reducible refine (HL.out).mono ?_); rintro e w4 ⟨rfl, hb4⟩; have HB4 := Lib.hid hb4; clear hb4)
  (with_reducible refine (HA _ HB4.out).out.mono ?_)
  rintro e w8 ⟨A8, c8, rfl, hR8, hS8, hT8⟩
  obtain ⟨M, hM⟩ : ∃ M, 1 + m0 = M := ⟨_, rfl⟩
  rw [hM] at hR8 hS8
  rw [take_range _ _ _ (by omega)] at hR8
  rw [drop_range] at hS8
  obtain ⟨g, c', hv, hg1, hg2, hc1, hc2, hC8, hcl⟩ := kI_form hR8 (by unfold ints; simp; omega)
  have hlen : (ints (List.range' 3 M)).length = M := by unfold ints; simp
  rw [hlen] at hv hc1 hC8
  rw [hM]
  obtain ⟨rfl, rfl⟩ : A8 = some ⟨g, 0, none⟩ ∧ c8 = c' := by
    injection hv with e1 e2 e3
    exact ⟨e1, e3⟩
  have hg3 : w3.heap.size ≤ g := Nat.le_trans HB4.out.size hg1.1
  have hM31 : M < 31 := by omega
  have hMi : (M : Int) < 31 := by omega
  have hM1 : 0 < M := by omega
  have hM1i : 0 < (M : Int) := by omega
  have HS8 := Lib.hid hS8
  have HC8 := Lib.hid hC8
  have HLe := fun w' (hb : Below w8.heap.size w8 w') => Lib.hid ((HS8.out.below hb).left_is (73 - (M : Int)) (by simp; omega))
  have HB8 := Lib.hid (hT8.below (below_then HB3.out HB3.out.size HB4.out) (Nat.le_trans HB3.out.size HB4.out.size) (fun x hx => by obtain ⟨_, _, _, _, _, f1, f2, f3, f5, f6, f7, f8⟩ := HS3.out.facts; rcases hx with hx | hx <;> omega))
  have hcM : (M : Int) ≤ (c8 : Int) := by omega
  clear hR8 hS8 hT8 hC8 hv HA HL
  have HB := Lib.hid (Below.refl w8.heap.size w8)
  go_wp2_with (go_at_call 13; (with_reducible refine ((HLe _ HB.out).out).mono ?_); rintro e w9 ⟨rfl, hb⟩; have HB := Lib.hid (below_then HB.out HB.out.size hb); clear hb)
  go_loopw [16, 17] (fun x i wr => ∃ X : Int, ∃ k : Nat, x = .int .i64 X ∧ i = .int .i64 (k : Int) ∧ k ≤ M ∧ Hid (Below w8.heap.size w8 wr)) (fun _ i _ => M - (intOf i).toNat)
  case atStart => exact ⟨bad, 0, rfl, rfl, Nat.zero_le _, HB⟩
  case round =>
    obtain ⟨X, k, rfl, rfl, hk, HBr⟩ := hrel
    by_cases hkM : k < M
    · have b2 : decide ((k : Int) < (M : Int)) = true := decide_eq_true (by omega)
      have y0 := pw_cell_below HBr.out (hcl k (by rw [hlen]; exact hkM)).1
      rw [show (ints (List.range' 3 M))[k]'(by rw [hlen]; exact hkM) = ((3 + k : Nat) : Int) by unfold ints; simp] at y0
      generalize ((3 + k : Nat) : Int) = Y at *
      by_cases hq : Y = X
      · have b3 : (Y == X) = true := beq_iff_eq.2 hq
        go_wp2
        exact ⟨⟨-1, k + 1, rfl, by go_num, by omega, HBr⟩, by simp [intOf]; omega⟩
      · have b3 : (Y == X) = false := by simpa using hq
        go_wp2
        exact ⟨⟨X, k + 1, rfl, by go_num, by omega, HBr⟩, by simp [intOf]; omega⟩
    · obtain rfl : k = M := by omega
      have b2 : decide ((k : Int) < (k : Int)) = false := decide_eq_false (by omega)
      have HBj := Lib.hid HBr.out
      go_upto_if 61 with (fail)
      go_cut [16] (fun x wc => ∃ X : Int, x = .int .i64 X ∧ Hid (Below w8.heap.size w8 wc))
      case first =>
        cases tw with
        | false =>
          go_wp2
          go_meet
          case rel => exact ⟨X, rfl, HBj⟩
        | true =>
          have hm0 := Int.emod_nonneg att (show (k : Int) ≠ 0 by omega)
          have hm1 := Int.emod_lt_of_pos att (show (0 : Int) < (k : Int) by omega)
          obtain ⟨j, hj⟩ := Int.eq_ofNat_of_zero_le hm0
          have HL2 := fun w' => Lib.hid (least_any w' att k (by omega) (by omega) h2.1 h2.2)
          simp only [hj] at HL2
          have hjk : j < k := by omega
          have hjki : (j : Int) < (k : Int) := by omega
          have y0 := pw_cell_below HBj.out (hcl j (by rw [hlen]; exact hjk)).1
          generalize (ints (List.range' 3 k))[j]'(by rw [hlen]; exact hjk) = Y at *
          clear hj hm0 hm1
          go_wp2_with (go_at_call 10; (with_reducible refine ((HL2 _).out).mono ?_); rintro e wn ⟨rfl, hb⟩; have y0 := pw_cell_below hb y0; have HBj := Lib.hid (below_then HBj.out HBj.out.size hb); clear hb)
          go_meet
          case rel => exact ⟨Y, rfl, HBj⟩
      case rest =>
        obtain ⟨Y, rfl, HBc⟩ := hcut
        have hm0 := Int.emod_nonneg att (show ((k + 1 : Nat) : Int) ≠ 0 by omega)
        have hm1 := Int.emod_lt_of_pos att (show (0 : Int) < ((k + 1 : Nat) : Int) by omega)
        obtain ⟨j, hj⟩ := Int.eq_ofNat_of_zero_le hm0
        have HL2 := fun w' => Lib.hid (least_any w' att (k + 1) (by omega) (by omega) h2.1 h2.2)
        simp only [hj] at HL2
        rw [show ((k + 1 : Nat) : Int) = (k : Int) + 1 from Int.natCast_succ k] at HL2
        have hjk : j ≤ k := by omega
        have hjki : (j : Int) ≤ (k : Int) := by omega
        have hjc : (j : Int) ≤ (c8 : Int) := by omega
        clear hj hm0 hm1
        have hkc : k ≤ c8 := by omega
        have HP1 := fun w' (hb : Below w8.heap.size w8 w') => Lib.hid (kI_take (Kd.C_below HC8.out hb) j hjk)
        have HP2 := fun w' (hb : Below w8.heap.size w8 w') => Lib.hid (kI_dropc (Kd.C_below HC8.out hb) j hjk hkc)
        obtain ⟨AX, hAX⟩ : ∃ AX, (if c8 = j then some (⟨g, 0, none⟩ : Addr) else some ⟨g, j, none⟩) = AX := ⟨_, rfl⟩
        rw [hAX] at HP2
        have HMay := Lib.hid (may_not k hM31 Y j)
        have hp1 : ((ints (List.range' 3 k)).take j).length = j := by rw [List.length_take, hlen]; omega
        have hp2 : ((ints (List.range' 3 k)).drop j).length = k - j := by rw [List.length_drop, hlen]
        generalize (ints (List.range' 3 k)).take j = P1 at *
        generalize (ints (List.range' 3 k)).drop j = P2 at *
        have hl1 : (([] : List Int).length + j) * 8 ≤ 140737488355328 := by rw [List.length_nil]; omega
        have hl2 : (P1.length + 1) * 8 ≤ 140737488355328 := by omega
        have hl3 : ((P1 ++ [Y]).length + (k - j)) * 8 ≤ 140737488355328 := by rw [List.length_append, List.length_singleton]; omega
        go_wp2_with (first
          | (go_at_call 10; (with_reducible refine ((HL2 _).out).mono ?_); rintro e wn ⟨rfl, hb⟩; have HBc := Lib.hid (below_then HBc.out HBc.out.size hb); clear hb; have hfr1 : ∀ x, wn.heap.size ≤ x → w8.heap.size ≤ x := fun x hx => Nat.le_trans HBc.out.size hx; have HC1 := HP1 _ HBc.out; have hB0 : Below 0 wn wn := Below.refl 0 wn; have hZ0 : 0 ≤ wn.heap.size := Nat.zero_le _; have hN1 : kI.R 3 wn 0 (fun x => w8.heap.size ≤ x) (.slice none 0 0) [] := Kd.R_nil _ _ _ _ _)
          | (at_builtin; refine Kd.R_append_row (Value.int .i64) (0 : Int) (h1 := fun _ => rfl) (w0 := wn) 0 rfl _ _ 22 3 (.int .i64 0) 8 rfl Try.underlying22 i_info rfl (Nat.succ_pos 7) (.slice none 0 0) [] P1 (some ⟨g, 0, none⟩) j c8 (fun x => w8.heap.size ≤ x) rfl rfl hfr1 hN1 HC1.out hB0 hZ0 hl1 ?_; intro v10 w10 hr10 hb10 hg10 ht10; obtain ⟨A1, c1, hv10⟩ := Kd.R_slice hr10; rw [List.nil_append, hp1] at hv10; rw [List.nil_append] at hr10; subst hv10; have HBa := Lib.hid (grown_below hN1 hg10 HBc.out); have HR10 := Lib.hid hr10; have hfr2 : ∀ x, w10.heap.size ≤ x → w8.heap.size ≤ x := fun x hx => Nat.le_trans HBa.out.size hx; have hMY : kI.M w10 0 (fun _ => False) Y [.int .i64 Y] := rfl; clear hr10 hb10 hg10 ht10)
          | (at_builtin; refine append_one kI (W := w10) rfl _ _ 22 3 (.int .i64 0) 8 rfl Try.underlying22 i_info rfl (Nat.succ_pos 0) (Nat.succ_pos 7) (.slice A1 j c1) P1 Y [.int .i64 Y] (fun x => w8.heap.size ≤ x) rfl rfl hMY HR10.out hl2 ?_; intro A2 c2 w11 hr11 hg11; have HBb := Lib.hid (grown_below HR10.out hg11 HBa.out); rw [hp1] at hr11; have HR11 : Hid (kI.R 3 w11 0 (fun x => w8.heap.size ≤ x) (.slice A2 (j + 1) c2) (P1 ++ [Y])) := Lib.hid (Kd.R_mono hr11 (fun x hx => hx.elim id (hfr2 x))); have hfr3 : ∀ x, w11.heap.size ≤ x → w8.heap.size ≤ x := fun x hx => Nat.le_trans HBb.out.size hx; have HC2 := HP2 _ HBb.out; have hB1 : Below 0 w11 w11 := Below.refl 0 w11; have hZ1 : 0 ≤ w11.heap.size := Nat.zero_le _; clear hr11 hg11)
          | (at_builtin; refine Kd.R_append_row (Value.int .i64) (0 : Int) (h1 := fun _ => rfl) (w0 := w11) 0 rfl _ _ 22 3 (.int .i64 0) 8 rfl Try.underlying22 i_info rfl (Nat.succ_pos 7) (.slice A2 (j + 1) c2) (P1 ++ [Y]) P2 AX (k - j) (c8 - j) (fun x => w8.heap.size ≤ x) rfl rfl hfr3 HR11.out HC2.out hB1 hZ1 hl3 ?_; intro v12 w12 hr12 hb12 hg12 ht12; obtain ⟨A3, c3, hv12⟩ := Kd.R_slice hr12; subst hv12; have HBd := Lib.hid (grown_below HR11.out hg12 HBb.out); have HR12 := Lib.hid hr12; clear hr12 hb12 hg12 ht12))
        obtain ⟨AR, cR, hv, _, hCR⟩ := Kd.R_reads HR12.out
        rw [show (P1 ++ [Y] ++ P2).length = j + (k - j + 1) by rw [List.length_append, List.length_append, List.length_singleton]; omega] at hv hCR
        have e9 : (P1 ++ [Y] ++ P2).length = j + (k - j + 1) := by rw [List.length_append, List.length_append, List.length_singleton]; omega
        injection hv with e1 e2 e3
        subst e1
        have HFn := Lib.hid ((HS8.out.below HBd.out).gives_no (P1 ++ [Y] ++ P2) (j + (k - j + 1)) A3 c3 e9 hCR HMay.out)
        clear hCR e2 e3 HR12 HP1 HP2 HMay
        have HB := HBd
        go_wp2_with (first
          | (go_at_call 16; (with_reducible refine (HFn.out).mono ?_); rintro e wn ⟨rfl, hb⟩; have HB := Lib.hid (below_then HB.out HB.out.size hb); clear hb)
          | (go_at_call 13; (with_reducible refine ((HLe _ HB.out).out).mono ?_); rintro e wn ⟨rfl, hb⟩; have HB := Lib.hid (below_then HB.out HB.out.size hb); clear hb))
        have HT : Hid (∀ x, x = bt ∨ x = bm → x < w3.heap.size) := Lib.hid (by obtain ⟨_, _, _, _, _, f1, f2, f3, f5, f6, f7, f8⟩ := HS8.out.facts; intro x hx; rcases hx with hx | hx <;> omega)
        clear HFn HL2
        go_loopw [20] (fun i wr => ∃ q : Nat, i = .int .i64 (q : Int) ∧ q ≤ k ∧ Hid (Below w8.heap.size w8 wr)) (fun i _ => k - (intOf i).toNat)
        case atStart => exact ⟨0, rfl, Nat.zero_le _, HB⟩
        case round =>
          obtain ⟨q, rfl, hq, HBq⟩ := hrel
          by_cases hqk : q < k
          · have b5 : decide ((q : Int) < (k : Int)) = true := decide_eq_true (by omega)
            have y0 := pw_cell_below HBq.out (hcl q (by rw [hlen]; exact hqk)).1
            rw [show (ints (List.range' 3 k))[q]'(by rw [hlen]; exact hqk) = ((3 + q : Nat) : Int) by unfold ints; simp] at y0
            have HU := Lib.hid ((HS8.out.below HBq.out).used_is ((3 + q : Nat) : Int) true (by unfold usedF; rw [decide_eq_true_iff]; refine ⟨by omega, by omega, fun hx => ?_⟩; rw [Int.toNat_natCast, List.mem_range'_1] at hx; omega))
            generalize ((3 + q : Nat) : Int) = Z at *
            go_wp2_with (go_at_call 15; (with_reducible refine (HU.out).mono ?_); rintro e wn ⟨rfl, hb⟩; have HBq := Lib.hid (below_then HBq.out HBq.out.size hb); clear hb)
            exact ⟨⟨q + 1, by go_num, by omega, HBq⟩, by simp [intOf]; omega⟩
          · obtain rfl : q = k := by omega
            have b5 : decide ((q : Int) < (q : Int)) = false := decide_eq_false (by omega)
            have HSq := Lib.hid (HS8.out.below HBq.out)
            have HF0 := Lib.hid (HSq.out.gives [] 0 none 0 rfl (Kd.C_nil _ _) (may_none _ _ _) _ (given_none q hM31))
            go_wp2_with fail
            (with_reducible refine HF0.out.mono ?_)
            rintro e w20 ⟨rfl, hs20, ht20⟩
            have HS20 := Lib.hid hs20
            have HB20 := Lib.hid (below_then HB8.out HB8.out.size HBq.out)
            have HB21 := Lib.hid (ht20.below HB20.out HB20.out.size (fun x hx => by obtain ⟨_, _, _, _, _, f1, f2, f3, f5, f6, f7, f8⟩ := HSq.out.facts; rcases hx with hx | hx <;> omega))
            have hCq := Kd.C_below HC8.out HBq.out
            have HC20 := Lib.hid (show kI.C w20 (some ⟨g, 0, none⟩) q (ints (List.range' 3 q)) from ReadsRow_touch hCq ht20 (fun ad ha _ hk => by cases ha; have h9 : g < w3.heap.size := HT.out _ hk; omega))
            have HLe2 := Lib.hid (HS20.out.left_is (73 - (q : Int)) (by simp; omega))
            have HFb := fun w' (hb : Below w20.heap.size w20 w') => Lib.hid ((HS20.out.below hb).gives (ints (List.range' 3 q)) q (some ⟨g, 0, none⟩) c8 hlen (Kd.C_below HC20.out hb) (may_back q hM31) _ (given_back q hM31))
            clear hs20 ht20 HF0 hCq
            go_wp2_with (go_at_call 13; (with_reducible refine (HLe2.out).mono ?_); rintro e w21 ⟨rfl, hb⟩; have HB22 := Lib.hid hb; clear hb)
            (with_reducible refine (HFb _ HB22.out).out.mono ?_)
            rintro e w23 ⟨rfl, hs23, ht23⟩
            have HB23 := Lib.hid (ht23.below (below_then HB21.out HB21.out.size HB22.out) (Nat.le_trans HB21.out.size HB22.out.size) (fun x hx => by obtain ⟨_, _, _, _, _, f1, f2, f3, f5, f6, f7, f8⟩ := HSq.out.facts; rcases hx with hx | hx <;> omega))
            have HLe3 := Lib.hid (hs23.left_is 73 (by simp))
            have HBl := fun w' (hb : Below w23.heap.size w23 w') => Lib.hid ((hs23.below hb).blocks_is 76 (by decide))
            clear ht23
            go_wp2_with (first
              | (go_at_call 13; (with_reducible refine (HLe3.out).mono ?_); rintro e w24 ⟨rfl, hb⟩; have HB24 := Lib.hid hb; clear hb)
              | (go_at_call 12; (with_reducible refine ((HBl _ HB24.out).out).mono ?_); rintro e w25 ⟨rfl, hb⟩; have HB25 := Lib.hid hb; clear hb))
            go_ret
            exact ⟨rfl, below_then HB23.out HB23.out.size (below_then HB24.out HB24.out.size HB25.out)⟩
end Go.Proofs.Ythijhmidmhgfaaa

set_option linter.unusedVariables false
set_option linter.unusedSimpArgs false
namespace Go.Proofs.Ythijhmidmhgfaaa
open Go.ChangeShapes Go.WideShapes Go.ChangeAt Go.RowKit
theorem own : ownKnob Try.prog.godebug = none := by kernel_rfl
theorem laidOut : laidOutB Try.prog = true := by kernel_rfl
theorem trodAll_below {H : Type} {enc : TypeId × Value → H} {W W' : World} (hb : Below W.heap.size W W') : ∀ (ts : List TypeId) (vs : List Value) (ds : List (DataW H)) (ps : List MemPlace),
    (∀ t ∈ ts, Try.prog.readableRec t = true ∧ t < Try.prog.types.size) → DataW.TrodAll enc Try.prog W 0 (fun _ => true) true ts vs ds ps → (∀ x ∈ ps, x.block < W.heap.size) →
    DataW.TrodAll enc Try.prog W' 0 (fun b => decide (b < W.heap.size)) true ts vs ds ps
  | [], [], [], _, _, h, _ => h
  | t :: ts, v :: vs, d :: ds, ps, hr, ⟨p, q, h1, h2, e⟩, hlt => by
    subst e
    have ht := hr t List.mem_cons_self
    exact ⟨p, q, Below.trod laidOut ht.1 ht.2 h1 hb (fun x hx => hlt x (List.mem_append_left _ hx)), trodAll_below hb ts vs ds q (fun x hx => hr x (List.mem_cons_of_mem _ hx)) h2 (fun x hx => hlt x (List.mem_append_right _ hx)), rfl⟩
  | [], _ :: _, _, _, _, h, _ => h.elim
  | [], [], _ :: _, _, _, h, _ => h.elim
  | _ :: _, [], _, _, _, h, _ => h.elim
  | _ :: _, _ :: _, [], _, _, h, _ => h.elim
theorem law_post {H : Type} {enc : TypeId × Value → H} {s : ChangeSpec} {f : Func} {apart fresh handsOn : Bool} {W W' : World} {args : Array Value} {ds gs : List (DataW H)} {before : List MemPlace} {tb : TypeId}
    (hvars : s.vars = []) (hr : ∀ t ∈ f.params.toList, Try.prog.readableRec t = true ∧ t < Try.prog.types.size) (hres : f.resultTypes = #[tb]) (hbool : Try.prog.underlying tb = some .bool)
    (hfn : (s.fn H (ds ++ gs)).results = [.lit (.bool true)] ∧ (s.fn H (ds ++ gs)).args = ds ∧ (s.fn H (ds ++ gs)).vars = [])
    (hW : DataW.Whole enc Try.prog f.params.toList s.vars apart W args.toList ds gs before) (hb : Below W.heap.size W W') :
    s.post enc Try.prog f apart fresh handsOn false W args (.bool true) W' := by
  have hW' := hW
  have hlt := hW.lt
  obtain ⟨p, q, hA, hV, rfl, hfz, hnd⟩ := hW
  refine ⟨ds, gs, _, [], p, [], hW', ?_, ?_, ?_, hb.frame _, fun h => by cases h⟩
  · rw [hfn.1, hres]
    exact trodAll_mk1 (shut_bool hbool true)
  · rw [hfn.2.1]
    exact trodAll_below hb _ _ _ _ hr hA (fun x hx => hlt x (List.mem_append_left _ hx))
  · rw [hfn.2.2, hvars]
    rfl
end Go.Proofs.Ythijhmidmhgfaaa

set_option linter.unusedVariables false
set_option linter.unusedSimpArgs false
namespace Go.Proofs.Ythijhmidmhgfaaa
open Go.RowKit Go.ChangeShapes Go.WideShapes Go.Deep Go.Proofs.YthijhmidmhgfaaaW.PrintWords
theorem wf_bounds {z : Int} (h : (Lit.int .i64 z).wf = true) : -9223372036854775808 ≤ z ∧ z ≤ 9223372036854775807 := by
  have h2 : (decide (IntKind.i64.min ≤ z) && decide (z ≤ IntKind.i64.max)) = true := h
  rw [Bool.and_eq_true, decide_eq_true_iff, decide_eq_true_iff] at h2
  have e1 : IntKind.i64.min = -9223372036854775808 := by decide
  have e2 : IntKind.i64.max = 9223372036854775807 := by decide
  omega
section
variable {H : Type} {enc : TypeId × Value → H} {w : World} {base : Nat} {spare : Nat → Bool} {held : Bool}
abbrev Light (t : TypeId) (d : DataW H) : Prop := ∀ n ∈ d.weights Try.prog t, n ≤ reachBytes
end
end Go.Proofs.Ythijhmidmhgfaaa

namespace Go.Proofs.Ythijhmidmhgfaaa.lawSpaceFrees
open Go.ChangeShapes Go.WideShapes Go.ChangeAt Go.RowKit
open Go.ChangeMaps (open_string shut_string)
set_option linter.unusedVariables false
set_option linter.unusedSimpArgs false
set_option maxRecDepth 100000 in
theorem contract (H : Type) (enc : TypeId × Value → H) (W : World) (base : Nat) (args : Array Value) (ds gs : List (DataW H)) (before : List MemPlace)
    (hval : ∀ (j : Nat) t v, Try.f4.params[j]? = some t → args[j]? = some v → Value.okWide Try.prog W .any base t v)
    (hW : DataW.Whole enc Try.prog Try.f4.params.toList Rows.spaceFreesSpec.vars false W args.toList ds gs before)
    (hz : (DataW.weightsEach Try.prog (Try.f4.params.toList ++ ([] : List TypeId)) (ds ++ gs)).all (· ≤ reachBytes) = true) :
    Calls Try.prog 4 args W fun e W' => ∃ v, e = .returned v ∧ Rows.spaceFreesSpec.post enc Try.prog Try.f4 false true false false W args v W' := by
  have hW' := hW
  obtain ⟨p, q, hA0, hV, rfl, hfz, hnd⟩ := hW
  have hA : DataW.TrodAll enc Try.prog W 0 (fun _ => true) true Try.f4.params.toList args.toList ds p := hA0
  rw [Try.params4] at hA hval hz
  obtain ⟨v0, vs0, d0, ds0, p0, q0, hargs, rfl, rfl, h0, r0⟩ := trodAll_cons hA
  obtain ⟨v1, vs1, d1, ds1, p1, q1, rfl, rfl, rfl, h1, r1⟩ := trodAll_cons r0
  obtain ⟨v2, vs2, d2, ds2, p2, q2, rfl, rfl, rfl, h2, r2⟩ := trodAll_cons r1
  obtain ⟨v3, vs3, d3, ds3, p3, q3, rfl, rfl, rfl, h3, r3⟩ := trodAll_cons r2
  obtain ⟨rfl, rfl, rfl⟩ := trodAll_nil r3
  obtain rfl : args = #[v0, v1, v2, v3] := by cases args; simp_all
  obtain ⟨rfl, rfl⟩ := trodVars_none hV
  obtain ⟨a0, rfl, rfl, rfl, w0⟩ := open_int Try.underlying3 (hval 0 3 v0 rfl rfl) h0
  obtain ⟨a1, rfl, rfl, rfl, w1⟩ := open_int Try.underlying3 (hval 1 3 v1 rfl rfl) h1
  obtain ⟨a2, rfl, rfl, rfl⟩ := open_bool Try.underlying4 (hval 2 4 v2 rfl rfl) h2
  obtain ⟨a3, rfl, rfl, rfl, w3⟩ := open_int Try.underlying3 (hval 3 3 v3 rfl rfl) h3
  clear hA0
  have hc : Calls Try.prog 4 #[.int .i64 a0, .int .i64 a1, .bool a2, .int .i64 a3] W fun e W' => e = .returned (.bool true) ∧ Below W.heap.size W W' := spaceFrees_any W a0 a1 a2 a3 (wf_bounds w0) (wf_bounds w1) (wf_bounds w3)
  exact hc.mono fun e W' ⟨he, hb⟩ => ⟨_, he, law_post rfl (by rw [Try.params4]; decide +kernel) (tb := 4) (by kernel_rfl) Try.underlying4 ⟨rfl, rfl, rfl⟩ hW' hb⟩
set_option maxRecDepth 100000 in
theorem lifted (os : Os) (started : os.Started) (H : Type) (enc : TypeId × Value → H) :
    ReturnsInHanded {} Try.checked os 4 .any (Rows.spaceFreesSpec.pre6 enc Try.prog Try.f4 Rows.spaceFreesRow.domain false) (Rows.spaceFreesSpec.post enc Try.prog Try.f4 false true false false) := by
  refine returnsInHanded_of_change_sized (C := Try.checked) own started (by kernel_rfl) Try.func4
    (ChangeSpec.witness6 (enc := enc) (C := Try.checked) false ⟨#[], #[.int .i64 0, .int .i64 0, .bool false, .int .i64 0], []⟩ 8 (by kernel_rfl) (by kernel_rfl) (by kernel_rfl) (by kernel_rfl)) ?_
  intro W base args ds gs before hval hW hcnd hsz _
  exact contract H enc W base args ds gs before hval hW hsz
theorem proved : Rows.SpaceFreesSaid :=
  OpenClaim.holds_of_wide 4 Try.f4 rfl rfl rfl rfl rfl rfl rfl ⟨rfl, rfl, rfl, rfl, rfl⟩ rfl rfl rfl rfl rfl (by kernel_rfl) Try.func4 (by kernel_rfl)
    (of_decide_eq_true (by kernel_rfl)) (by unfold Func.isWrapper; first | (rw [if_pos (by decide +kernel)]; kernel_rfl) | (rw [if_neg (by decide +kernel)]; exact ⟨rfl, rfl⟩))
    (fun os started H enc _ => lifted os started H enc)
end Go.Proofs.Ythijhmidmhgfaaa.lawSpaceFrees
