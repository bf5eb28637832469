/- Walks: metadata and sizes: the two answers of chapter 12. -/
import Derived.Test.YtbhdehkdnenigaaDSmall
set_option linter.unusedVariables false
set_option linter.unusedSimpArgs false
namespace Go.Proofs.Ytbhdehkdnenigaa
open Go.RowKit Go.Proofs.YtbhdehkdnenigaaW.PrintWords
attribute [local go_sem] Vn.val

def psize (p : Pr) : Nat := p.n.size + p.v.size
def psizes (l : List Pr) : Nat := (l.map psize).sum
def vsize (x : Vn) : Nat := 32 + x.key.size + x.data.size + psizes x.pairs
theorem psizes_succ {l : List Pr} {k : Nat} (h : k < l.length) : psizes (l.take (k + 1)) = psizes (l.take k) + (l[k].n.size + l[k].v.size) := by
  rw [List.take_succ_eq_append_getElem h]
  simp only [psizes, psize, List.map_append, List.sum_append, List.map_cons, List.map_nil, List.sum_cons, List.sum_nil, Nat.add_zero]
theorem psizes_le (l : List Pr) (k : Nat) : psizes (l.take k) ≤ psizes l := by
  conv => rhs; rw [← List.take_append_drop k l]
  simp only [psizes, List.map_append, List.sum_append]
  omega
/-- all texts of a version have lengths as memory holds them -/
structure Vn.Fits (x : Vn) : Prop where
  key : x.key.size ≤ 140737488355328
  data : x.data.size ≤ 140737488355328
  pairs : ∀ p ∈ x.pairs, p.n.size ≤ 140737488355328 ∧ p.v.size ≤ 140737488355328
theorem w64_add (a b : Int) : wrap64 (wrap64 a + b) = wrap64 (a + b) := by unfold wrap64; omega
theorem w64_two (n : Nat) (m a b : Int) (s : Nat) (h : m = wrap64 (n : Int)) (hs : (s : Int) = n + (a + b)) : wrap64 (wrap64 (m + a) + b) = wrap64 (s : Int) := by
  rw [h, w64_add, Int.add_assoc, w64_add, hs]
theorem w64_one (n : Nat) (m a : Int) (s : Nat) (h : m = wrap64 (n : Int)) (hs : (s : Int) = n + a) : wrap64 (m + a) = wrap64 (s : Int) := by
  rw [h, w64_add, hs]
theorem w64_start (a b : Nat) (ha : a ≤ 140737488355328) (hb : b ≤ 140737488355328) : (32 + a + b : Int) = wrap64 ((32 + a + b + psizes [] : Nat) : Int) := by
  rw [IntWalk.wrap64_in _ (by simp [psizes]; omega)]
  simp [psizes]
theorem below1 (w : World) (o : Obj) : Below w.heap.size w (w.alloc o) := (Below.refl _ _).alloc (Nat.le_refl _) _
/-- the cells of a parameter that the call keeps in memory -/
theorem box_cell {w wr : World} {cs : Array Value} {t : TypeId} (hb : Below (w.alloc (.cells cs t)).heap.size (w.alloc (.cells cs t)) wr) {i : Nat} {v : Value} (h : cs[i]? = some v) : wr.cell? ⟨w.heap.size, i, none⟩ = some v := by
  rw [hb.cell (show w.heap.size < (w.heap.push _).size from by rw [Array.size_push]; omega)]
  simp [go_sem, h]
theorem box_below {w wr : World} {o : Obj} (hb : Below (w.alloc o).heap.size (w.alloc o) wr) : Below w.heap.size w wr := (below1 w o).trans (hb.mono (show w.heap.size ≤ (w.heap.push _).size from by rw [Array.size_push]; omega))
set_option maxHeartbeats 400000 in
theorem refSize_any (x : Vn) (A : Option Addr) (c : Nat) (w : World) (hC : kPr.C w A x.pairs.length x.pairs) (hl : x.pairs.length ≤ c) (HF : x.Fits) :
    Calls Try.prog 40 #[x.val A c] w fun e w' => e = .returned (.int .i64 (wrap64 (vsize x))) ∧ Below w.heap.size w w' := by
  have HC := Lib.hid hC
  have hml := hC.2.1
  clear hC
  have hfk := HF.key
  have hfd := HF.data
  have HV : Hid (vsize x = 32 + x.key.size + x.data.size + psizes x.pairs) := rfl
  have hv := HV.out
  go_enter Try.func40, Try.ntmps40
  go_wp2
  go_loopw [3, 4] (fun n i wr => ∃ (k : Nat) (m : Int), k ≤ x.pairs.length ∧ i = .int .i64 k ∧ n = .int .i64 m ∧ Hid (m = wrap64 ((32 + x.key.size + x.data.size + psizes (x.pairs.take k) : Nat) : Int)) ∧ Below (w.alloc (.cells #[.string x.key, .int .i64 x.seq, .bool x.gone, .string x.data, .slice A x.pairs.length c] 48)).heap.size (w.alloc (.cells #[.string x.key, .int .i64 x.seq, .bool x.gone, .string x.data, .slice A x.pairs.length c] 48)) wr) (fun _ i _ => x.pairs.length - (intOf i).toNat)
  case atStart => exact ⟨0, 32 + x.key.size + x.data.size, Nat.zero_le _, rfl, by go_num, w64_start _ _ hfk hfd, Below.refl _ _⟩
  case round =>
    obtain ⟨k, m, hk, rfl, rfl, HM, hb⟩ := hrel
    have hm4 := box_cell hb (i := 4) rfl
    have HCw := Kd.C_below HC.out (box_below hb)
    have hm := HM.out
    by_cases hlt : k < x.pairs.length
    · have hs := psizes_succ hlt
      have hfp := HF.pairs _ (List.getElem_mem hlt)
      obtain ⟨ad, rfl, h1, h2⟩ := kPr_at HCw k hlt
      have HS := Lib.hid hs
      generalize (x.pairs[k]'hlt).n = pn at *
      generalize (x.pairs[k]'hlt).v = pv at *
      have HM2 := Lib.hid hm
      clear hm hs HCw
      go_wp2
      go_quiet (fail)
      go_wp2
      go_roundw
      case rel => exact ⟨k + 1, wrap64 (wrap64 (m + pn.size) + pv.size), by omega, by go_num, rfl, w64_two _ _ _ _ _ HM2.out (by rw [HS.out]; omega), below_drewN hb _⟩
      case measure => simp [intOf]; omega
    · obtain rfl : k = x.pairs.length := by omega
      rw [List.take_length] at hm
      have HE : Hid (m = wrap64 (vsize x)) := by show _ = _; rw [hm, hv]
      clear hm hv HCw
      go_wp2
      go_ret
      exact ⟨ret_int (by rw [HE.out]), box_below hb⟩
end Go.Proofs.Ytbhdehkdnenigaa
