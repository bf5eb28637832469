/- Walks: decimal, digits, and the law PaxCounts returns true. -/
import Derived.Test.YtbhdehkdnenigaaDoorPaxBack
import Derived.Laws.MakeOwn
set_option linter.unusedVariables false
set_option linter.unusedSimpArgs false
namespace Go.Proofs.YtbhdehkdnenigaaDoor
open Go.RowKit
attribute [local go_sem] bs_size bs_append bs_extract take_drop_len bs_toList

theorem conv1_below {P : Program} {src dst e : TypeId} (hs : P.underlying src = some (.slice e)) (he : P.underlying e = some (.int .u8)) (hd : P.underlying dst = some .string) {W0 W' : World} {x : Int} {t : TypeId} (hb : Below (W0.alloc (.cells #[.int .u8 x] t)).drew.heap.size (W0.alloc (.cells #[.int .u8 x] t)).drew W') :
    (convert src dst (.slice (some ⟨W0.heap.size, 0, none⟩) 1 1)).run P W' = .ok (.string (bs [b8 x])) W' :=
  run_convert_bytes_arg _ src e hs he W0.heap.size 0 1 1 [x] rfl (fun i hi => by
    obtain rfl : i = 0 := by omega
    rw [hb.cell (show W0.heap.size < (W0.heap.push _).size from by rw [Array.size_push]; omega)]
    show (W0.alloc (.cells #[.int .u8 x] t)).cell? _ = _
    simp [go_sem]) dst hd
def nd (n : Nat) : Nat := if n = 0 then 0 else Lib.nDigits n
theorem nd_step {m : Nat} (h : 0 < m) : nd m = nd (m / 10) + 1 := by
  unfold nd
  rw [if_neg (by omega)]
  by_cases c : m < 10
  · rw [if_pos (by omega), Lib.nDigits_small c]
  · rw [if_neg (by omega), Lib.nDigits_big c]
set_option maxHeartbeats 400000 in
theorem digits_any (n : Nat) (w : World) (hn : n ≤ 9223372036854775807) : Calls Tryd.prog 15 #[.int .i64 n] w fun e w' => e = .returned (.int .i64 (nd n)) ∧ w = w' := by
  go_enter Tryd.func15, Tryd.ntmps15
  go_wp2
  go_loop [0, 3] (fun a d => ∃ m k : Nat, a = .int .i64 m ∧ d = .int .i64 k ∧ m ≤ n ∧ k + m ≤ n ∧ Hid (nd n = k + nd m)) (fun a _ => (intOf a).toNat)
  case atStart => exact ⟨n, 0, rfl, rfl, Nat.le_refl _, by omega, by simp [Hid]⟩
  case round =>
    obtain ⟨m, k, rfl, rfl, hm, hk, HN⟩ := hrel
    by_cases h0 : m = 0
    · subst h0
      go_wp2
      go_ret
      exact ⟨ret_int (by rw [HN.out]; simp [nd]), rfl⟩
    · have b1 : 0 < m := by omega
      have HS := Lib.hid (nd_step b1)
      have b2 : decide ((0 : Int) < (m : Int)) = true := by simp; omega
      go_wp2
      go_round
      case rel => exact ⟨m / 10, k + 1, by go_num, by go_num, by omega, by omega, by show _ = _; rw [HN.out, HS.out]; omega⟩
      case measure => simp [intOf]; omega
set_option maxHeartbeats 1000000 in
theorem decimal14_any (n : Nat) : ∀ (w : World) (hn : n ≤ 1125899906842624), Calls Tryd.prog 14 #[.int .i64 n] w fun e w' => e = .returned (.string (bs (Pax.dec n))) ∧ Below w.heap.size w w' := by
  induction n using Nat.strongRecOn with
  | _ n ih =>
    intro w hn
    have hc := fun (W : World) (x : Int) (t : TypeId) => conv1 (P := Tryd.prog) (src := 33) (dst := 9) Tryd.underlying33 Tryd.underlying5 Tryd.underlying9 W x t
    by_cases h : n < 10
    · have HD := Lib.hid (dec_small h)
      clear ih
      go_enter Tryd.func14, Tryd.ntmps14
      go_wp2
      go_ret
      exact ⟨ret_str (by rw [HD.out]; congr 3; congr 1; omega), (Below.refl _ _).alloc (Nat.le_refl _) _⟩
    · have HD := Lib.hid (dec_big h)
      have HI : ∀ w', Hid (Calls Tryd.prog 14 #[.int .i64 (IntKind.i64.wrap ((n : Int) / 10))] w' fun e w'' => e = .returned (.string (bs (Pax.dec (n / 10)))) ∧ Below w'.heap.size w' w'') := fun w' => by
        rw [IntWalk.i64_in _ ⟨by omega, by omega⟩, show ((n : Int) / 10) = ((n / 10 : Nat) : Int) from by omega]
        exact ih (n / 10) (by omega) w' (by omega)
      have hcd := fun (W : World) (x : Int) (t : TypeId) => conv1_below (P := Tryd.prog) (src := 33) (dst := 9) Tryd.underlying33 Tryd.underlying5 Tryd.underlying9 (W0 := W) (x := x) (t := t) (Below.refl _ _)
      clear ih
      have HX : Hid (b8 (IntKind.u8.wrap (IntKind.i64.wrap (48 + (n : Int).tmod 10))) = b8 (48 + (n : Int) % 10)) := by
        show _ = _
        rw [Int.tmod_eq_emod_of_nonneg (Int.natCast_nonneg n), IntWalk.i64_in _ ⟨by omega, by omega⟩, IntWalk.u8_in _ ⟨by omega, by omega⟩]
      have hln := dec_len_le (n := n / 10) (by omega)
      have hln2 : (9223372036854775807 < (Pax.dec (n / 10)).length + 1) = False := by simp; omega
      go_enter Tryd.func14, Tryd.ntmps14
      go_wp2
      go_region_with (go_at_call 14; (with_reducible refine (HI _).out.mono ?_); rintro e w' ⟨rfl, hb⟩; first | (have hcv := conv1_below (P := Tryd.prog) (src := 33) (dst := 9) Tryd.underlying33 Tryd.underlying5 Tryd.underlying9 hb) | (skip))
      all_goals go_wp2
      all_goals go_ret
      all_goals refine ⟨ret_str (by rw [HD.out, HX.out]), ?_⟩
      · exact (below_drewN (Below.refl w.heap.size w) 1).trans (hb.alloc hb.size _)
      all_goals exact (below_drewN ((Below.refl w.heap.size w).alloc (Nat.le_refl _) _) 1).trans (hb.mono (by show w.heap.size ≤ (w.heap.push _).size; rw [Array.size_push]; omega))

theorem bits_14 (a : Int) : ∃ x : Nat, bits .and .i64 a 16383 = (x : Int) ∧ x ≤ 16383 := by
  refine ⟨(BitVec.ofInt 64 a).toNat &&& 16383, ?_, Nat.and_le_right⟩
  have h : (BitVec.ofInt 64 a).toNat &&& 16383 ≤ 16383 := Nat.and_le_right
  simp only [bits]
  rw [show (BitVec.ofInt IntKind.i64.bits a &&& BitVec.ofInt IntKind.i64.bits 16383).toNat = (BitVec.ofInt 64 a).toNat &&& 16383 from by rw [BitVec.toNat_and]; rfl]
  exact IntWalk.i64_in _ ⟨by omega, by omega⟩
theorem cell_madeU8 (W : World) (t : TypeId) (n i : Nat) (h : i < n) : (W.alloc (.cells (madeCells #[.int .u8 0] n) t)).cell? ⟨W.heap.size, i, none⟩ = some (.int .u8 0) := by
  have : (madeCells #[.int .u8 0] n)[i]? = some (.int .u8 0) := by rw [← Array.getElem?_toList, toList_madeCells_one]; simp [h]
  simp [go_sem, this]
theorem map_b8 (n : Nat) : (List.replicate n (0 : Int)).map b8 = List.replicate n 0 := by rw [List.map_replicate]; rfl
theorem conv_made {P : Program} {src dst e : TypeId} (hs : P.underlying src = some (.slice e)) (he : P.underlying e = some (.int .u8)) (hd : P.underlying dst = some .string) (W : World) (n : Nat) (t : TypeId) :
    (convert src dst (.slice (some ⟨W.heap.size, 0, none⟩) n n)).run P (W.alloc (.cells (madeCells #[.int .u8 0] n) t)) = .ok (.string (bs (List.replicate n 0))) (W.alloc (.cells (madeCells #[.int .u8 0] n) t)) := by
  have := run_convert_bytes_arg (P := P) (W.alloc (.cells (madeCells #[.int .u8 0] n) t)) src e hs he W.heap.size 0 n n (List.replicate n 0) (by simp) (fun i hi => by
    rw [Nat.zero_add, cell_madeU8 _ _ _ _ hi]
    simp [hi]) dst hd
  rw [this]
  congr 2
  show (⟨((List.replicate n (0 : Int)).map b8).toArray⟩ : ByteArray) = _
  rw [map_b8]
  rfl
end Go.Proofs.YtbhdehkdnenigaaDoor
