/- Walks: the test of delta.Right, slices.IndexFunc and ContainsFunc of it. -/
import Derived.Test.YtbhdehkdnenigaaDBRight
set_option linter.unusedVariables false
set_option linter.unusedSimpArgs false
namespace Go.Proofs.Ytbhdehkdnenigaa
open Go.RowKit Go.Proofs.YtbhdehkdnenigaaW.PrintWords
attribute [local go_sem] Vn.val
set_option maxHeartbeats 400000 in
theorem old_any (x : Vn) (A : Option Addr) (c : Nat) (b : Nat) (s : Int) (w : World) (hb : w.cell? ⟨b, 0, none⟩ = some (.int .i64 s)) :
    Calls Try.prog 32 #[x.val A c, .pointer (some ⟨b, 0, none⟩)] w fun e w' => e = .returned (.bool (decide (x.seq < s))) ∧ Below w.heap.size w w' := by
  have hb2 := pw_cell_below (below1 w (.cells #[.string x.key, .int .i64 x.seq, .bool x.gone, .string x.data, .slice A x.pairs.length c] 48)) hb
  go_enter Try.func32, Try.ntmps32
  go_wp2
  go_ret
  exact ⟨rfl, below1 _ _⟩
def oldF (l : List Vn) (s : Int) : Bool := l.any (fun v => decide (v.seq < s))
theorem old_hit {l : List Vn} {s : Int} {k : Nat} (h : k < l.length) (q : decide ((rdV l k).seq < s) = true) : oldF l s = true := by
  unfold oldF
  rw [List.any_eq_true]
  exact ⟨_, rdV_mem h, q⟩
set_option maxRecDepth 100000 in
set_option maxHeartbeats 1000000 in
theorem idx_any (l : List Vn) (A : Option Addr) (c : Nat) (b : Nat) (s : Int) (w : World) (hb : w.cell? ⟨b, 0, none⟩ = some (.int .i64 s)) (hC : kVn.C w A l.length l) (hl : l.length ≤ c) :
    Calls Try.prog 47 #[.slice A l.length c, .func (.func 32) #[] #[.pointer (some ⟨b, 0, none⟩)]] w fun e w' => ∃ r : Int, e = .returned (.int .i64 r) ∧ decide (0 ≤ r) = oldF l s ∧ Below w.heap.size w w' := by
  have HC := Lib.hid hC
  have hml := hC.2.1
  clear hC
  go_enter Try.func47, Try.ntmps47
  go_wp2
  go_loopw [8] (fun i wr => ∃ k : Nat, k ≤ l.length ∧ i = .int .i64 k ∧ Hid (oldF (l.take k) s = false) ∧ Below w.heap.size w wr) (fun i _ => l.length - (intOf i).toNat)
  case atStart => exact ⟨0, Nat.zero_le _, rfl, by show oldF (l.take 0) s = false; simp [oldF], Below.refl _ _⟩
  case round =>
    obtain ⟨k, hk, rfl, HO, hbw⟩ := hrel
    have HCw := Kd.C_below HC.out hbw
    by_cases hlt : k < l.length
    · obtain ⟨ad, A4, c4, rfl, h1, h2, h3, h4, h5, h6, h7⟩ := kVn_rd HCw k hlt
      have hbb := pw_cell_below hbw hb
      have HT := fun w' h => Lib.hid (old_any (rdV l k) A4 c4 b s w' h)
      have hk1 := List.take_succ_eq_append_getElem hlt
      rw [rdV_at hlt] at hk1
      cases q : decide ((rdV l k).seq < s) with
      | true =>
        have HB := Lib.hid (show oldF l s = true from old_hit hlt q)
        rw [q] at HT
        clear hk1
        go_wp2_with (first | (go_at_call 32; refine (HT _ hbb).out.mono ?_; rintro e w' ⟨rfl, hb2⟩))
        go_ret
        exact ⟨_, rfl, by rw [HB.out]; exact decide_eq_true (by omega), hbw.trans (hb2.mono hbw.size)⟩
      | false =>
        have HN := Lib.hid (show oldF (l.take (k + 1)) s = false by
          rw [hk1]
          have h0 := HO.out
          unfold oldF at h0 ⊢
          rw [List.any_append, h0]
          simpa using q)
        rw [q] at HT
        clear hk1
        go_wp2_with (first | (go_at_call 32; refine (HT _ hbb).out.mono ?_; rintro e w' ⟨rfl, hb2⟩))
        go_roundw
        case rel => exact ⟨k + 1, by omega, by go_num, HN, hbw.trans (hb2.mono hbw.size)⟩
        case measure => simp [intOf]; omega
    · have hke : k = l.length := by omega
      subst hke
      have h0 := HO.out
      rw [List.take_length] at h0
      have HB := Lib.hid h0
      clear h0 HCw
      go_wp2
      go_ret
      exact ⟨-1, rfl, by rw [HB.out]; rfl, hbw⟩
set_option maxHeartbeats 400000 in
theorem has_any (l : List Vn) (A : Option Addr) (c : Nat) (b : Nat) (s : Int) (w : World) (hb : w.cell? ⟨b, 0, none⟩ = some (.int .i64 s)) (hC : kVn.C w A l.length l) (hl : l.length ≤ c) :
    Calls Try.prog 34 #[.slice A l.length c, .func (.func 32) #[] #[.pointer (some ⟨b, 0, none⟩)]] w fun e w' => e = .returned (.bool (oldF l s)) ∧ Below w.heap.size w w' := by
  have HI := Lib.hid (idx_any l A c b s w hb hC hl)
  go_enter Try.func34, Try.ntmps34
  go_wp2_with (first | (go_at_call 47; refine HI.out.mono ?_; rintro e w' ⟨r, rfl, hr, hb2⟩))
  go_ret
  exact ⟨by first | rfl | exact ret_bool hr, hb2⟩
def dRightV (l : List Vn) (nx s : Int) : Bool := decide (1 ≤ s) && decide (s ≤ nx) && rightV l nx && !oldF l s
set_option maxHeartbeats 1000000 in
theorem dRight_any (l : List Vn) (nx s : Int) (A : Option Addr) (c : Nat) (w : World) (hC : kVn.C w A l.length l) (hl : l.length ≤ c) (HF : ∀ x ∈ l, x.Fits) :
    Calls Try.prog 15 #[.agg #[.int .i64 s, .int .i64 nx, .slice A l.length c]] w fun e w' => e = .returned (.bool (dRightV l nx s)) ∧ Below w.heap.size w w' := by
  have hmf : ∀ (fn : Fn) (first cap : Array Value) (w : World), (Instr.makeFunc fn first cap).run Try.prog w = .ok (.func fn first cap) w := fun _ _ _ _ => rfl
  have HR0 := fun w' (h : Below w.heap.size w w') => bRight_any l nx A c w' (Kd.C_below hC h) hl HF
  have HH0 := fun w' (h : Below w.heap.size w w') (hb : w'.cell? ⟨w.heap.size, 0, none⟩ = some (.int .i64 s)) => has_any l A c w.heap.size s w' hb (Kd.C_below hC h) hl
  have hd : dRightV l nx s = (decide (1 ≤ s) && decide (s ≤ nx) && rightV l nx && !oldF l s) := rfl
  have hB0 := below1 w (.cells #[.int .i64 s, .int .i64 nx, .slice A l.length c] 27)
  have hc0 : (w.alloc (.cells #[.int .i64 s, .int .i64 nx, .slice A l.length c] 27)).cell? ⟨w.heap.size, 0, none⟩ = some (.int .i64 s) := box_cell (Below.refl _ _) (i := 0) rfl
  by_cases q1 : 1 ≤ s
  · have t1 : decide (1 ≤ s) = true := decide_eq_true q1
    by_cases q2 : s ≤ nx
    · have t2 : decide (s ≤ nx) = true := decide_eq_true q2
      cases q3 : rightV l nx with
      | true =>
        rw [q3] at HR0
        have HB := Lib.hid (show dRightV l nx s = !oldF l s by rw [hd, t1, t2, q3]; rfl)
        have HR := fun w' h => Lib.hid (HR0 w' h)
        have HH := fun w' h hb => Lib.hid (HH0 w' h hb)
        clear HR0 HH0 hd
        generalize oldF l s = o at *
        go_enter Try.func15, Try.ntmps15
        go_wp2_with (first | (go_at_call 33; refine (HR _ hB0).out.mono ?_; rintro e w1 ⟨rfl, hb1⟩; have hc1 := pw_cell_below hb1 hc0; have hB1 := hB0.trans (hb1.mono hB0.size); have hm0 := box_cell hb1 (i := 0) rfl; have hm1 := box_cell hb1 (i := 1) rfl; have hm2 := box_cell hb1 (i := 2) rfl) | (go_at_call 34; refine (HH _ hB1 hc1).out.mono ?_; rintro e w2 ⟨rfl, hb2⟩))
        go_ret
        exact ⟨ret_bool HB.out.symm, hB1.trans (hb2.mono hB1.size)⟩
      | false =>
        rw [q3] at HR0
        have HB := Lib.hid (show dRightV l nx s = false by rw [hd, q3]; simp)
        have HR := fun w' h => Lib.hid (HR0 w' h)
        clear HR0 HH0 hd
        go_enter Try.func15, Try.ntmps15
        go_wp2_with (first | (go_at_call 33; refine (HR _ hB0).out.mono ?_; rintro e w1 ⟨rfl, hb1⟩; have hB1 := hB0.trans (hb1.mono hB0.size)))
        go_ret
        exact ⟨ret_bool HB.out.symm, hB1⟩
    · have t2 : decide (s ≤ nx) = false := decide_eq_false q2
      have HB := Lib.hid (show dRightV l nx s = false by rw [hd, t2]; simp)
      clear HR0 HH0 hd
      go_enter Try.func15, Try.ntmps15
      go_wp2
      go_ret
      exact ⟨ret_bool HB.out.symm, hB0⟩
  · have t1 : decide (1 ≤ s) = false := decide_eq_false q1
    have HB := Lib.hid (show dRightV l nx s = false by rw [hd, t1]; simp)
    clear HR0 HH0 hd
    go_enter Try.func15, Try.ntmps15
    go_wp2
    go_ret
    exact ⟨ret_bool HB.out.symm, hB0⟩
end Go.Proofs.Ytbhdehkdnenigaa
