/- Walks: a value's bytes, by both packages. -/
import Derived.Test.YtbhdehkdnenigaaDWell
set_option linter.unusedVariables false
set_option linter.unusedSimpArgs false
namespace Go.Proofs.Ytbhdehkdnenigaa
open Go.RowKit Go.Proofs.YtbhdehkdnenigaaW.PrintWords
attribute [local go_sem] Vn.val

def zVn : Vn := ⟨⟨#[]⟩, 0, false, ⟨#[]⟩, []⟩
def rdV (l : List Vn) (i : Nat) : Vn := l.getD i zVn
theorem rdV_at {l : List Vn} {i : Nat} (h : i < l.length) : l[i] = rdV l i := by simp [rdV, h]
theorem rdV_mem {l : List Vn} {i : Nat} (h : i < l.length) : rdV l i ∈ l := by rw [← rdV_at h]; exact List.getElem_mem h
theorem kVn_rd {w : World} {A : Option Addr} {n : Nat} {xs : List Vn} (h : kVn.C w A n xs) (i : Nat) (hi : i < xs.length) :
    ∃ ad A4 c4, A = some ad ∧ w.cell? (ad.add (i * 5)) = some (.string (rdV xs i).key) ∧ w.cell? ⟨(ad.add (i * 5)).block, (ad.add (i * 5)).off + 1, none⟩ = some (.int .i64 (rdV xs i).seq) ∧ w.cell? ⟨(ad.add (i * 5)).block, (ad.add (i * 5)).off + 2, none⟩ = some (.bool (rdV xs i).gone) ∧ w.cell? ⟨(ad.add (i * 5)).block, (ad.add (i * 5)).off + 3, none⟩ = some (.string (rdV xs i).data) ∧ w.cell? ⟨(ad.add (i * 5)).block, (ad.add (i * 5)).off + 4, none⟩ = some (.slice A4 (rdV xs i).pairs.length c4) ∧ (rdV xs i).pairs.length ≤ c4 ∧ kPr.C w A4 (rdV xs i).pairs.length (rdV xs i).pairs := by
  have := kVn_at h i hi
  rwa [rdV_at hi] at this
theorem w64_sum (n : Nat) (m : Int) (a s : Nat) (h : m = wrap64 (n : Int)) (hs : s = n + a) : wrap64 (m + wrap64 (a : Int)) = wrap64 (s : Int) := by
  rw [h, w64_add, Int.add_comm, w64_add, hs]
  congr 1
  omega
def bsize (l : List Vn) : Nat := (l.map vsize).sum
theorem bsize_succ {l : List Vn} {k : Nat} (h : k < l.length) : bsize (l.take (k + 1)) = bsize (l.take k) + vsize (rdV l k) := by
  rw [List.take_succ_eq_append_getElem h, rdV_at h]
  simp only [bsize, List.map_append, List.sum_append, List.map_cons, List.map_nil, List.sum_cons, List.sum_nil, Nat.add_zero]
theorem bsize_le (l : List Vn) (k : Nat) : bsize (l.take k) ≤ bsize l := by
  conv => rhs; rw [← List.take_append_drop k l]
  simp only [bsize, List.map_append, List.sum_append]
  omega
theorem mem_sum {l : List Nat} {a : Nat} (h : a ∈ l) : a ≤ l.sum := by
  induction l with
  | nil => cases h
  | cons b r ih =>
    simp only [List.sum_cons]
    rcases List.mem_cons.1 h with rfl | h
    · omega
    · have := ih h
      omega
theorem w64_zero (l : List Vn) : (0 : Int) = wrap64 (bsize (l.take 0) : Nat) := by
  rw [List.take_zero, IntWalk.wrap64_in _ (by simp [bsize])]
  simp [bsize]
theorem vsize_le {l : List Vn} {x : Vn} (h : x ∈ l) : vsize x ≤ bsize l := mem_sum (List.mem_map_of_mem h)
set_option maxRecDepth 100000 in
set_option maxHeartbeats 400000 in
theorem refBytes_any (l : List Vn) (nx : Int) (A : Option Addr) (c : Nat) (w : World) (hC : kVn.C w A l.length l) (hl : l.length ≤ c) (HF : ∀ x ∈ l, x.Fits) :
    Calls Try.prog 21 #[.agg #[.int .i64 nx, .slice A l.length c]] w fun e w' => e = .returned (.int .i64 (wrap64 (bsize l))) ∧ Below w.heap.size w w' := by
  have HC := Lib.hid hC
  have hml := hC.2.1
  clear hC
  go_enter Try.func21, Try.ntmps21
  go_wp2
  go_loopw [3, 4] (fun n i wr => ∃ (k : Nat) (m : Int), k ≤ l.length ∧ i = .int .i64 k ∧ n = .int .i64 m ∧ Hid (m = wrap64 (bsize (l.take k))) ∧ Below (w.alloc (.cells #[.int .i64 nx, .slice A l.length c] 24)).heap.size (w.alloc (.cells #[.int .i64 nx, .slice A l.length c] 24)) wr) (fun _ i _ => l.length - (intOf i).toNat)
  case atStart => exact ⟨0, 0, Nat.zero_le _, rfl, rfl, w64_zero l, Below.refl _ _⟩
  case round =>
    obtain ⟨k, m, hk, rfl, rfl, HM, hbw⟩ := hrel
    have hm1 := box_cell hbw (i := 1) rfl
    have HCw := Kd.C_below HC.out (box_below hbw)
    have hm := HM.out
    by_cases hlt : k < l.length
    · have hs := bsize_succ hlt
      have hv := HF _ (rdV_mem hlt)
      obtain ⟨ad, A4, c4, rfl, h1, h2, h3, h4, h5, h6, h7⟩ := kVn_rd HCw k hlt
      generalize rdV l k = x at *
      have HS := fun w' h => Lib.hid (refSize_any x A4 c4 w' (Kd.C_below h7 h) h6 hv)
      have HSS := Lib.hid hs
      have HM2 := Lib.hid hm
      clear hm hs HCw h7
      go_wp2_with (go_at_call 40; refine (HS _ (Below.refl _ _)).out.mono ?_; rintro e w' ⟨rfl, hb2⟩)
      go_roundw
      case rel => exact ⟨k + 1, wrap64 (m + wrap64 (vsize x)), by omega, by go_num, rfl, w64_sum _ _ _ _ HM2.out HSS.out, hbw.trans (hb2.mono hbw.size)⟩
      case measure => simp [intOf]; omega
    · obtain rfl : k = l.length := by omega
      rw [List.take_length] at hm
      have HE := Lib.hid hm
      clear hm HCw
      go_wp2
      go_ret
      exact ⟨ret_int (by rw [HE.out]), box_below hbw⟩
set_option maxRecDepth 100000 in
set_option maxHeartbeats 400000 in
theorem bytes_any (l : List Vn) (nx : Int) (A : Option Addr) (c : Nat) (w : World) (hC : kVn.C w A l.length l) (hl : l.length ≤ c) (HF : ∀ x ∈ l, x.Fits) :
    Calls Try.prog 35 #[.agg #[.int .i64 nx, .slice A l.length c]] w fun e w' => e = .returned (.int .i64 (wrap64 (bsize l))) ∧ Below w.heap.size w w' := by
  have HC := Lib.hid hC
  have hml := hC.2.1
  clear hC
  go_enter Try.func35, Try.ntmps35
  go_wp2
  go_loopw [3, 9] (fun n i wr => ∃ (k : Nat) (m : Int), k ≤ l.length ∧ i = .int .i64 k ∧ n = .int .i64 m ∧ Hid (m = wrap64 (bsize (l.take k))) ∧ Below w.heap.size w wr) (fun _ i _ => l.length - (intOf i).toNat)
  case atStart => exact ⟨0, 0, Nat.zero_le _, rfl, rfl, w64_zero l, below1 _ _⟩
  case round =>
    obtain ⟨k, m, hk, rfl, rfl, HM, hbw⟩ := hrel
    have HCw := Kd.C_below HC.out hbw
    have hm := HM.out
    by_cases hlt : k < l.length
    · have hs := bsize_succ hlt
      have hv := HF _ (rdV_mem hlt)
      obtain ⟨ad, A4, c4, rfl, h1, h2, h3, h4, h5, h6, h7⟩ := kVn_rd HCw k hlt
      generalize rdV l k = x at *
      have HS := fun w' h => Lib.hid (size_any x A4 c4 w' (Kd.C_below h7 h) h6 hv)
      have HSS := Lib.hid hs
      have HM2 := Lib.hid hm
      clear hm hs HCw h7
      go_wp2_with (go_at_call 48; refine (HS _ (below1 _ _)).out.mono ?_; rintro e w' ⟨rfl, hb2⟩)
      go_roundw
      case rel => exact ⟨k + 1, wrap64 (m + wrap64 (vsize x)), by omega, by go_num, rfl, w64_sum _ _ _ _ HM2.out HSS.out, (hbw.alloc hbw.size _).trans (hb2.mono (Nat.le_trans hbw.size (by simp [go_sem])))⟩
      case measure => simp [intOf]; omega
    · obtain rfl : k = l.length := by omega
      rw [List.take_length] at hm
      have HE := Lib.hid hm
      clear hm HCw
      go_wp2
      go_ret
      exact ⟨ret_int (by rw [HE.out]), hbw⟩
end Go.Proofs.Ytbhdehkdnenigaa
