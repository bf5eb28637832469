/- Walks: lists of versions with pairs of their own. -/
import Derived.Test.YtbhdehkdnenigaaDOwn
set_option linter.unusedVariables false
set_option linter.unusedSimpArgs false
namespace Go.Proofs.Ytbhdehkdnenigaa
open Go.RowKit Go.Proofs.YtbhdehkdnenigaaW.PrintWords
attribute [local go_sem] Vn.val Vn.with

theorem vn_info : (Try.prog.info? 48).map (fun i => (i.zero, i.size, i.bytes)) = some (some (.agg #[.string ⟨#[]⟩, .int .i64 0, .bool false, .string ⟨#[]⟩, .slice none 0 0]), 5, 72) := by kernel_rfl
/-- a version whose pairs were made later than the list, as an element to be appended -/
theorem elem_M {W W' : World} {base : Nat} {x : Vn} {v : Value} (h : kPr.R 60 W' W.heap.size (fun _ => True) v x.pairs) (hb : base ≤ W.heap.size) :
    kVn.M W' base (fun k => W.heap.size ≤ k) x [.string x.key, .int .i64 x.seq, .bool x.gone, .string x.data, v] :=
  kVn_mkM _ _ _ x (Kd.R_lower (Kd.R_mono (Kd.R_bound h) (fun k hk => hk.2.1)) hb)
theorem new_ne {W : World} {base : Nat} {ok : Nat → Prop} {v : Value} {xs : List Vn} (h : kVn.R 48 W base ok v xs) : ∀ k, W.heap.size ≤ k → True ∧ some k ≠ v.ownBlock := fun k hk => ⟨trivial, fun e => by
  obtain ⟨inner, ho⟩ := Kd.R_own h
  have := own_lt ho k e.symm
  omega⟩
/-- the lists that a value holds have room in memory -/
structure Room (l : List Vn) : Prop where
  len : l.length * 72 ≤ 140737488351232
  pairs : ∀ x ∈ l, x.pairs.length * 32 ≤ 140737488351232
  fits : ∀ x ∈ l, x.Fits
set_option maxRecDepth 100000 in
set_option maxHeartbeats 1000000 in
theorem copy_any (l : List Vn) (nx : Int) (A : Option Addr) (c : Nat) (w : World) (hC : kVn.C w A l.length l) (hl : l.length ≤ c) (HR : Room l) :
    Calls Try.prog 10 #[.agg #[.int .i64 nx, .slice A l.length c]] w fun e w' => ∃ v, e = .returned (.agg #[.int .i64 nx, v]) ∧ kVn.R 48 w' w.heap.size (fun _ => True) v l ∧ Below w.heap.size w w' := by
  have HC := Lib.hid hC
  have hml := hC.2.1
  clear hC
  have hlen := HR.len
  go_enter Try.func10, Try.ntmps10
  go_wp2
  go_loopw [3, 4] (fun lv i wr => ∃ k : Nat, k ≤ l.length ∧ i = .int .i64 k ∧ Hid (kVn.R 48 wr (w.heap.size + 2) (fun _ => True) lv (l.take k)) ∧ Below (w.heap.size + 2) ((w.alloc (.cells #[.int .i64 nx, .slice A l.length c] 24)).alloc (.cells #[.int .i64 0, .slice none 0 0] 24)) wr) (fun _ i _ => l.length - (intOf i).toNat)
  case atStart => exact ⟨0, Nat.zero_le _, rfl, Kd.R_nil _ _ _ _ _, Below.refl _ _⟩
  case round =>
    obtain ⟨k, hk, rfl, HL, hbw⟩ := hrel
    have hm1 := box2_a hbw (i := 1) rfl
    have hs2 : w.heap.size + 2 ≤ wr.heap.size := by have := hbw.size; simpa [go_sem] using this
    have HCw := Kd.C_below HC.out (box2_below hbw)
    by_cases hlt : k < l.length
    · obtain ⟨ad, A4, c4, rfl, h1, h2, h3, h4, h5, h6, h7⟩ := kVn_rd HCw k hlt
      have hp32 := HR.pairs _ (rdV_mem hlt)
      have hnext : l.take (k + 1) = l.take k ++ [rdV l k] := by rw [List.take_succ_eq_append_getElem hlt, rdV_at hlt]
      have htl : (l.take k).length = k := by rw [List.length_take]; omega
      generalize rdV l k = x at *
      have HS := Lib.hid (own_any x A4 c4 wr h7 h6 (by omega))
      have HN := Lib.hid hnext
      have HTL := Lib.hid htl
      clear HCw h7 hnext htl
      go_wp2_with (first | (go_at_call 29; refine HS.out.mono ?_; rintro e w' ⟨v, rfl, hv, hb2⟩; have HV := Lib.hid hv; clear hv) | (at_builtin; refine Kd.R_append kVn (w.heap.size + 2) rfl _ _ 22 48 _ 72 rfl Try.underlying22 vn_info rfl (by decide) (by decide) _ (l.take k) x _ (fun _ => True) (fun k => wr.heap.size ≤ k) rfl rfl (elem_M HV.out hs2) (new_ne HL.out) (fun _ _ => trivial) (Kd.R_below HL.out hb2) (hbw.trans (hb2.mono hs2)) (Nat.le_trans hs2 hb2.size) (by rw [HTL.out]; omega) ?_; intro v1 w1 hR hB hg hat; rw [← HN.out] at hR; have HL1 := Lib.hid hR; clear hR hg hat))
      go_roundw
      case rel => exact ⟨k + 1, by omega, by go_num, HL1.out, hB⟩
      case measure => simp [intOf]; omega
    · obtain rfl : k = l.length := by omega
      have hL := HL.out
      rw [List.take_length] at hL
      obtain ⟨A1, c1, rfl⟩ := Kd.R_slice hL
      have HL2 := Lib.hid hL
      have m0 := box2_a hbw (i := 0) rfl
      have b0 := box2_b hbw (i := 0) rfl
      have b1 := box2_b hbw (i := 1) rfl
      have fb := box2_fb hbw
      clear HCw hL
      go_wp2
      have hR2 : kVn.R 48 wr (w.heap.size + 2) (fun k => w.heap.size + 2 ≤ k) (.slice A1 l.length c1) l := Kd.R_mono (Kd.R_bound HL2.out) (fun k hk => hk.2.1)
      refine bodyPost_ret (v := .agg #[.int .i64 nx, .slice A1 l.length c1]) (by simp [results, Try.results10, go_sem, b0, b1]) rfl ?_
      refine ⟨_, rfl, ?_, ?_⟩
      · refine Kd.R_lower (Kd.R_mono (Kd.R_far (Kd.R_far hR2 ?_ _) ?_ _) (fun _ _ => trivial)) (by omega)
        all_goals (intro k hk; show k ≠ _; simp only; omega)
      · exact (((box2_below hbw).setCell (by simp) _).setCell (by simp) _)
end Go.Proofs.Ytbhdehkdnenigaa
