/- Walks: strings.IndexRune, IndexAny and ContainsAny at the two bytes 61 and 10, and pax.isKey, for every text. -/
import Derived.Test.YtbhdehkdnenigaaDoorPaxW2
import Derived.Test.YtbhdehkdnenigaaDoorShelf
import Derived.Laws.RangeAny
import Derived.Lib.OthersKept
import Derived.Deep.LoopGhost
set_option linter.unusedVariables false
set_option linter.unusedSimpArgs false
namespace Go.Proofs.YtbhdehkdnenigaaDoor
open Go.RowKit
theorem two_bytes {s : ByteArray} (h : s.size = 2) : ∃ a b, s = ⟨#[a, b]⟩ := by
  obtain ⟨⟨l⟩⟩ := s
  match l, h with
  | [a, b], _ => exact ⟨a, b, rfl⟩
def eqnl : ByteArray := ⟨#[61, 10]⟩
theorem eqnl_size : eqnl.size = 2 := rfl
set_option maxRecDepth 100000 in
set_option maxHeartbeats 400000 in
theorem rune_bad (r : Int) (w : World) (h : 128 ≤ r) (h1 : r ≠ 65533) (h2 : Lib.validRune r = false) : Calls Tryd.prog 38 #[.string ⟨#[61, 10]⟩, .int .i32 r] w fun e w' => e = .returned (.int .i64 (-1)) ∧ Below w.heap.size w w' := by
  have hv := fun w' => Tryd.utf8_ValidRune r w'
  rw [h2] at hv
  have HV := fun w' => Lib.hid (hv w')
  clear hv h2
  have b1 : decide (r < 128) = false := by simp; omega
  have b2 : (r == 65533) = false := by simp; omega
  go_enter Tryd.func38, Tryd.ntmps38
  go_wp2_with (go_at_call 48; refine (HV _).out.mono ?_; rintro e w' ⟨rfl, rfl⟩)
  go_ret
  exact ⟨rfl, Below.refl _ _⟩
set_option maxRecDepth 100000 in
set_option maxHeartbeats 400000 in
theorem rune_high (r : Int) (w : World) (h : 128 ≤ r) (h1 : r ≠ 65533) (h2 : Lib.validRune r = true) (hval : Utf8.valid r = true) : Calls Tryd.prog 38 #[.string ⟨#[61, 10]⟩, .int .i32 r] w fun e w' => e = .returned (.int .i64 (-1)) ∧ Below w.heap.size w w' := by
  have hv := fun w' => Tryd.utf8_ValidRune r w'
  rw [h2] at hv
  have HV := fun w' => Lib.hid (hv w')
  clear hv h2
  have b1 : decide (r < 128) = false := by simp; omega
  have b2 : (r == 65533) = false := by simp; omega
  go_enter Tryd.func38, Tryd.ntmps38
  go_wp2_with (go_at_call 48; refine (HV _).out.mono ?_; rintro e w' ⟨rfl, rfl⟩)
  obtain ⟨g1, g2, g3⟩ := encode_facts r (hval) h
  generalize henc : Utf8.encode r = rs at *
  go_step3
  by_cases c : rs.size = 2
  · obtain ⟨a, b, rfl⟩ := two_bytes c
    have hr : 128 ≤ b.toNat := g3 (show 1 < 2 by omega)
    have q0 : ((10 : Int) == (b.toNat : Int)) = false := beq_eq_false_iff_ne.2 (by omega)
    have q1 : ((((⟨#[61, 10]⟩ : ByteArray)[1]'(show 1 < 2 by omega)).toNat : Int) != (((⟨#[a, b]⟩ : ByteArray)[1]'(show 1 < 2 by omega)).toNat : Int)) = true := bne_iff_ne.2 (by show ((10 : Nat) : Int) ≠ (b.toNat : Int); omega)
    clear g1 g2 g3 c
    go_wp2
    refine wp_loop_rounds 1 ?_
    rw [rounds_succ]
    go_wp2
    go_step3
    go_wp2
    go_quiet (fail)
    go_wp2
    go_quiet ((go_at_call 29; exact quiet_add_same (Tryd.strings_IndexByte _ _ _)))
    go_wp2
    rw [Exit.noGoto_ret]
    simp only [Exit.inBlock, Exit.then]
    rw [Exit.noGoto_ret]
    go_ret
    exact ⟨rfl, below_drewN (Below.refl _ _) _⟩
  · have q1 : decide (((rs.size : Int) - 1) < 2) = false := by simp; omega
    go_wp2
    refine wp_loop_rounds 1 ?_
    rw [rounds_succ]
    go_wp2
    rw [Exit.noGoto_ret]
    go_ret
    exact ⟨rfl, Below.refl _ _⟩

set_option maxRecDepth 100000 in
set_option maxHeartbeats 400000 in
theorem rune_err (w : World) : Calls Tryd.prog 38 #[.string ⟨#[61, 10]⟩, .int .i32 65533] w fun e w' => e = .returned (.int .i64 (-1)) ∧ Below w.heap.size w w' := by
  go_enter Tryd.func38, Tryd.ntmps38
  go_wp2
  have n0 := fun ty => run_next_ascii (P := Tryd.prog) w ⟨#[61, 10]⟩ 0 ty (show 0 < 2 by omega) (show 61 < 128 by omega)
  have n1 := fun ty => run_next_ascii (P := Tryd.prog) w ⟨#[61, 10]⟩ 1 ty (show 1 < 2 by omega) (show 10 < 128 by omega)
  have n2 := fun ty => run_next_end (P := Tryd.prog) w ⟨#[61, 10]⟩ 2 ty (show ¬ 2 < 2 by omega)
  refine wp_loop_rounds 3 ?_
  rw [rounds_succ]
  go_wp2
  rw [rounds_succ]
  go_wp2
  rw [rounds_succ]
  go_wp2
  go_ret
  exact ⟨rfl, (Below.refl _ _).alloc (Nat.le_refl _) _⟩

theorem valid_eq (r : Int) (h : Lib.validRune r = true) : Utf8.valid r = true := by
  unfold Lib.validRune at h
  unfold Utf8.valid
  simp at h ⊢
  omega
theorem rune_any (r : Int) (w : World) (h : 128 ≤ r) : Calls Tryd.prog 38 #[.string ⟨#[61, 10]⟩, .int .i32 r] w fun e w' => e = .returned (.int .i64 (-1)) ∧ Below w.heap.size w w' := by
  by_cases h1 : r = 65533
  · subst h1
    exact rune_err w
  · cases h2 : Lib.validRune r
    · exact rune_bad r w h h1 h2
    · exact rune_high r w h h1 h2 (valid_eq r h2)
/-- A byte that is '=' or a new line. -/
def bad (c : UInt8) : Bool := c == 61 || c == 10
theorem rune_low (c : UInt8) (w : World) (h : c.toNat < 128) : Calls Tryd.prog 38 #[.string ⟨#[61, 10]⟩, .int .i32 c.toNat] w fun e w' => e = .returned (.int .i64 (Lib.indexByte [61, 10] c)) ∧ w = w' :=
  (Tryd.strings_IndexRune_ascii ⟨#[61, 10]⟩ c.toNat w (by omega) (by omega)).mono fun e w' ⟨h1, h2⟩ => ⟨by rw [h1]; simp, h2.symm⟩
theorem index_bad (c : UInt8) : (bad c = true ∧ 0 ≤ Lib.indexByte [61, 10] c) ∨ (bad c = false ∧ Lib.indexByte [61, 10] c = -1) := by
  unfold bad Lib.indexByte
  by_cases h1 : c = 61
  · left; simp [h1]
  · by_cases h2 : c = 10
    · left; subst h2; decide
    · right
      have e1 : ((61 : UInt8) == c) = false := by simp; exact fun e => h1 e.symm
      have e2 : ((10 : UInt8) == c) = false := by simp; exact fun e => h2 e.symm
      simp [h1, h2, e1, e2, Lib.indexByte]
def cont (s : ByteArray) (i k : Nat) : Bool := i + k < s.size && (s.get! (i + k)).toNat / 64 == 2
theorem decode_width (s : ByteArray) (i : Nat) : (Utf8.decode s i).2 = 1 ∨ ((Utf8.decode s i).2 = 2 ∧ cont s i 1 = true) ∨ ((Utf8.decode s i).2 = 3 ∧ cont s i 1 = true ∧ cont s i 2 = true) ∨ ((Utf8.decode s i).2 = 4 ∧ cont s i 1 = true ∧ cont s i 2 = true ∧ cont s i 3 = true) := by
  unfold cont
  simp only [Utf8.decode]
  split
  · exact .inl rfl
  · split
    · rename_i h
      simp only [Bool.and_eq_true] at h
      split
      · exact .inr (.inl ⟨rfl, by simp only [Bool.and_eq_true]; exact h.2⟩)
      · exact .inl rfl
    · split
      · rename_i h
        simp only [Bool.and_eq_true] at h
        split
        · exact .inr (.inr (.inl ⟨rfl, by simp only [Bool.and_eq_true]; exact h.1.2, by simp only [Bool.and_eq_true]; exact h.2⟩))
        · exact .inl rfl
      · split
        · rename_i h
          simp only [Bool.and_eq_true] at h
          split
          · exact .inr (.inr (.inr ⟨rfl, by simp only [Bool.and_eq_true]; exact h.1.1.2, by simp only [Bool.and_eq_true]; exact h.1.2, by simp only [Bool.and_eq_true]; exact h.2⟩))
          · exact .inl rfl
        · exact .inl rfl
theorem cont_byte {s : ByteArray} {i k : Nat} (h : cont s i k = true) : ∃ hs : i + k < s.size, 128 ≤ (s[i + k]'hs).toNat := by
  simp only [cont, Bool.and_eq_true, decide_eq_true_eq, beq_iff_eq] at h
  refine ⟨h.1, ?_⟩
  have := get_at s (i + k) h.1
  rw [Nat.add_zero] at this
  rw [← this]
  omega
/-- A rune above the ASCII ones has none of its bytes below 128. -/
theorem decode_bytes (s : ByteArray) (i : Nat) (h : i < s.size) (ha : 128 ≤ (s[i]'h).toNat) : i + (Utf8.decode s i).2 ≤ s.size ∧ ∀ j, i ≤ j → j < i + (Utf8.decode s i).2 → ∃ hs : j < s.size, 128 ≤ (s[j]'hs).toNat := by
  have h0 : ∃ hs : i + 0 < s.size, 128 ≤ (s[i + 0]'hs).toNat := ⟨h, ha⟩
  have go : ∀ n, (∀ k, k < n → ∃ hs : i + k < s.size, 128 ≤ (s[i + k]'hs).toNat) → 0 < n → i + n ≤ s.size ∧ ∀ j, i ≤ j → j < i + n → ∃ hs : j < s.size, 128 ≤ (s[j]'hs).toNat := by
    intro n hn hp
    refine ⟨by obtain ⟨hs, _⟩ := hn (n - 1) (by omega); omega, fun j h1 h2 => ?_⟩
    obtain ⟨k, rfl⟩ : ∃ k, j = i + k := ⟨j - i, by omega⟩
    exact hn k (by omega)
  rcases decode_width s i with e | ⟨e, c1⟩ | ⟨e, c1, c2⟩ | ⟨e, c1, c2, c3⟩
  all_goals
    rw [e]
    refine go _ (fun k hk => ?_) (by omega)
  · obtain rfl : k = 0 := by omega
    exact h0
  · rcases (show k = 0 ∨ k = 1 by omega) with rfl | rfl
    · exact h0
    · exact cont_byte c1
  · rcases (show k = 0 ∨ k = 1 ∨ k = 2 by omega) with rfl | rfl | rfl
    · exact h0
    · exact cont_byte c1
    · exact cont_byte c2
  · rcases (show k = 0 ∨ k = 1 ∨ k = 2 ∨ k = 3 by omega) with rfl | rfl | rfl | rfl
    · exact h0
    · exact cont_byte c1
    · exact cont_byte c2
    · exact cont_byte c3
/-- The short road: nothing bad ahead of i. -/
def NoBad (s : ByteArray) (i : Nat) : Prop := ∀ j (hj : j < s.size), j < i → bad (s[j]'hj) = false
theorem NoBad.all {s : ByteArray} (h : NoBad s s.size) : s.data.toList.any bad = false := by
  rw [List.any_eq_false]
  intro c hc
  obtain ⟨k, hk, rfl⟩ := List.mem_iff_getElem.1 hc
  have := h k (by simpa using hk) (by simpa using hk)
  simp only [Bool.not_eq_true]
  exact this
theorem bad_any {s : ByteArray} {i : Nat} (h : i < s.size) (hb : bad (s[i]'h) = true) : s.data.toList.any bad = true :=
  List.any_eq_true.2 ⟨s[i], by
    have : s.data.toList[i]'(by simpa using h) = s[i] := rfl
    rw [← this]
    exact List.getElem_mem _, hb⟩
theorem bad_high {c : UInt8} (h : 128 ≤ c.toNat) : bad c = false := by
  simp [bad, ← UInt8.toNat_inj]
  omega
theorem below_iterAt {w wr : World} (h : Below w.heap.size w wr) (s : ByteArray) (p : Nat) : Below w.heap.size w (wr.iterAt w.heap.size s p) :=
  ⟨h.os, h.tape, h.output, by rw [Lib.iterAt_size]; exact h.size, fun i hi => (Lib.iterAt_other wr w.heap.size i s p (by omega)).trans (h.block i hi)⟩
/-- what IndexAny tells: at least 0 just if there is a bad byte -/
def AnyRes (s : ByteArray) (e : Ending) : Prop := ∃ n : Int, e = .returned (.int .i64 n) ∧ decide (0 ≤ n) = s.data.toList.any bad
set_option maxRecDepth 100000 in
set_option maxHeartbeats 1000000 in
theorem any_short (s : ByteArray) (w : World) (h8 : s.size ≤ 8) : Calls Tryd.prog 33 #[.string s, .string ⟨#[61, 10]⟩] w fun e w' => AnyRes s e ∧ Below w.heap.size w w' := by
  have h8z : decide ((8 : Int) < (s.size : Int)) = false := decide_eq_false (by omega)
  go_enter Tryd.func33, Tryd.ntmps33
  go_wp2_with (go_at_call 39; refine (Tryd.strings_shouldUseASCIISet _ _).mono ?_; rintro e w' ⟨rfl, hw⟩; rw [hw, h8z])
  go_loopg [9, 10] s.size (fun g _ _ wx => ∃ i : Nat, i + g = s.size ∧ Hid (wx.heap[w.heap.size]? = some (.stringIter s i)) ∧ Hid (NoBad s i) ∧ Below w.heap.size w wx)
  case atStart => exact ⟨0, by omega, World.iter_heap w s 0, fun j _ h => absurd h (Nat.not_lt_zero _), (Below.refl _ _).alloc (Nat.le_refl _) _⟩
  case round =>
    obtain ⟨i, hig, HK, HN, hb⟩ := hrel
    cases gk with
    | zero =>
      obtain rfl : i = s.size := by omega
      have hnx := fun ty => Lib.run_next_end_at (P := Tryd.prog) wr w.heap.size s s.size ty HK.out (by omega)
      go_wp2
      go_ret
      exact ⟨⟨-1, rfl, by rw [HN.out.all]; rfl⟩, hb⟩
    | succ g =>
      have hi : i < s.size := by omega
      by_cases hc : (s[i]'hi).toNat < 128
      · have hnx := fun ty => Lib.run_next_ascii_at (P := Tryd.prog) wr w.heap.size s i ty HK.out hi hc
        have hr := fun w' => Lib.hid (rune_low (s[i]'hi) w' hc)
        have hb2 := below_iterAt hb s (i + 1)
        have hk2 := Lib.hid (Lib.iterAt_heap wr w.heap.size s i (i + 1) HK.out)
        generalize hx : s[i]'hi = x at *
        have HX := Lib.hid hx
        clear hx
        rcases index_bad x with ⟨hb1, hn⟩ | ⟨hb1, hn⟩
        · have HB := Lib.hid hb1
          clear hb1
          go_wp2_with (go_at_call 38; refine (hr _).out.mono ?_; rintro e w' ⟨rfl, rfl⟩)
          go_ret
          exact ⟨⟨i, rfl, by rw [bad_any hi (by rw [HX.out]; exact HB.out)]; simp⟩, hb2⟩
        · have HB := Lib.hid hb1
          have hn' : ¬ (0 ≤ Lib.indexByte [61, 10] x) := by omega
          clear hb1 hn
          go_wp2_with (go_at_call 38; refine (hr _).out.mono ?_; rintro e w' ⟨rfl, rfl⟩)
          go_roundg g
          case measure => omega
          case rel => exact ⟨i + 1, by omega, hk2, fun j hj hlt => by
            rcases (show j < i ∨ j = i by omega) with h | rfl
            · exact HN.out j hj h
            · rw [HX.out]; exact HB.out, hb2⟩
      · have hnx := fun ty => Lib.run_next_any_at (P := Tryd.prog) wr w.heap.size s i ty HK.out hi
        have hd := decode_high s i hi (by omega)
        have hdb := decode_bytes s i hi (by omega)
        generalize (Utf8.decode s i).2 = wd at *
        have hr := fun w' => Lib.hid (rune_any ((Utf8.decode s i).1 : Nat) w' (by omega))
        generalize (Utf8.decode s i).1 = r at *
        have hb2 := below_iterAt hb s (i + wd)
        have hk2 := Lib.hid (Lib.iterAt_heap wr w.heap.size s i (i + wd) HK.out)
        have HD := Lib.hid hdb
        have hw : i + wd ≤ s.size := hdb.1
        clear hdb
        go_wp2_with (go_at_call 38; refine (hr _).out.mono ?_; rintro e w' ⟨rfl, hb3⟩)
        go_roundg (g + 1 - wd)
        case measure => omega
        case rel => exact ⟨i + wd, by omega, (hb3.block _ (Array.getElem?_eq_some_iff.1 hk2.out).1).trans hk2.out, fun j hj hlt => by
          rcases Nat.lt_or_ge j i with h | h
          · exact HN.out j hj h
          · obtain ⟨hs, h128⟩ := HD.out.2 j h hlt
            exact bad_high h128, hb2.trans (hb3.mono hb2.size)⟩

theorem asc_ok : ∀ (j : Nat) b, ((⟨#[61, 10]⟩ : ByteArray).data.toList)[j]? = some b → b.toNat < 128
  | 0, b, h => by simp at h; subst h; decide
  | 1, b, h => by simp at h; subst h; decide
  | j + 2, b, h => by simp at h
theorem set_zero (w : World) : (zeroValue 54).run Tryd.prog w = .ok (.agg (Array.replicate 256 (.bool false))) w := by kernel_rfl
theorem set_info : (Tryd.prog.info? 54).map (·.size) = some 256 := by kernel_rfl
theorem set_zc : Tryd.zeroCells54 = Array.replicate 256 (.bool false) := by kernel_rfl
theorem set_has (x : UInt8) : ((⟨#[61, 10]⟩ : ByteArray).data.toList).contains x = bad x := by
  simp [bad]
  rfl
set_option maxRecDepth 1000000 in
set_option maxHeartbeats 4000000 in
theorem any_long (s : ByteArray) (w : World) (h8 : 8 < s.size) (hs : s.size ≤ 9223372036854775807) : Calls Tryd.prog 33 #[.string s, .string ⟨#[61, 10]⟩] w fun e w' => AnyRes s e ∧ Below w.heap.size w w' := by
  have hM := Tryd.strings_makeASCIISet set_zero ⟨#[61, 10]⟩ w (by decide) asc_ok
  have h8z : decide ((8 : Int) < (s.size : Int)) = true := decide_eq_true (by omega)
  generalize hset : Lib.setCells ((⟨#[61, 10]⟩ : ByteArray).data.toList) = cs at *
  have hsz : cs.size = 256 := by rw [← hset]; exact Lib.setCells_size _
  have hone : cs.all (·.oneCell') = true := by rw [← hset]; exact Lib.setCells_one _
  have hsc : (storeCells ⟨w.heap.size + 1, 0, none⟩ cs.toList 0).run Tryd.prog ((w.alloc (.cells cs 54)).alloc (.cells (Array.replicate 256 (.bool false)) 54)) = .ok () ((w.alloc (.cells cs 54)).alloc (.cells cs 54)) := by
    have := run_storeCells_new (P := Tryd.prog) (w.alloc (.cells cs 54)) 54 (Array.replicate 256 (.bool false)) cs (by rw [hsz]; exact set_info) (by rw [hsz, Array.size_replicate]) hone
    simpa using this
  rw [← set_zc] at hsc
  have hcellAt : ∀ x : UInt8, ((w.alloc (.cells cs 54)).alloc (.cells cs 54)).cell? ⟨w.heap.size + 1, x.toNat, none⟩ = some (.bool (bad x)) := fun x => by
    rw [World.cell?_alloc_at _ _ _ _ (by simp), ← hset, Lib.setCells_at, set_has]
  have HC := Lib.hid hcellAt
  clear hcellAt hset hone
  go_enter Tryd.func33, Tryd.ntmps33
  go_wp2_with (first
    | (go_at_call 39; refine (Tryd.strings_shouldUseASCIISet _ _).mono ?_; rintro e w' ⟨rfl, hw⟩; rw [hw, h8z])
    | (go_at_call 40; refine hM.mono ?_; rintro e w' ⟨rfl, hw⟩; rw [hw]))
  clear hM hsc
  have hbw : Below w.heap.size w ((w.alloc (.cells cs 54)).alloc (.cells cs 54)) := ((Below.refl _ _).alloc (Nat.le_refl _) _).alloc (by simp) _
  go_loopg [8] s.size (fun g s8 wx => ∃ i : Nat, i + g = s.size ∧ s8 = .int .i64 i ∧ wx = ((w.alloc (.cells cs 54)).alloc (.cells cs 54)) ∧ Hid (NoBad s i))
  case atStart => exact ⟨0, by omega, rfl, rfl, fun j _ h => absurd h (Nat.not_lt_zero _)⟩
  case round =>
    obtain ⟨i, hig, rfl, rfl, HN⟩ := hrel
    cases gk with
    | zero =>
      obtain rfl : i = s.size := by omega
      have hiz : ¬ ((s.size : Int) < (s.size : Int)) := by omega
      go_wp2
      go_ret
      exact ⟨⟨-1, rfl, by rw [HN.out.all]; rfl⟩, hbw⟩
    | succ g =>
      have hi : i < s.size := by omega
      have hiz : (i : Int) < (s.size : Int) := by omega
      obtain ⟨x, hx⟩ : ∃ x : UInt8, s[i]'hi = x := ⟨_, rfl⟩
      have HX := Lib.hid hx
      have hcx := HC.out x
      cases hin : bad x <;> rw [hin] at hcx
      · have HB := Lib.hid hin
        clear hin
        go_wp2_with (go_at_call 41; refine (Tryd.asciiSet_contains _ x _ _ hcx).mono ?_; rintro e w' ⟨rfl, hw⟩; rw [hw])
        go_roundg g
        case measure => omega
        case rel => exact ⟨i + 1, by omega, by go_num, rfl, fun j hj hlt => by
            rcases (show j < i ∨ j = i by omega) with h | rfl
            · exact HN.out j hj h
            · rw [HX.out]; exact HB.out⟩
      · have HB := Lib.hid hin
        clear hin
        go_wp2_with (go_at_call 41; refine (Tryd.asciiSet_contains _ x _ _ hcx).mono ?_; rintro e w' ⟨rfl, hw⟩; rw [hw])
        go_ret
        exact ⟨⟨i, rfl, by rw [bad_any hi (by rw [HX.out]; exact HB.out)]; simp⟩, hbw⟩
set_option maxHeartbeats 400000 in
theorem containsAny_any (s : ByteArray) (w : World) (hs : s.size ≤ 9223372036854775807) : Calls Tryd.prog 27 #[.string s, .string ⟨#[61, 10]⟩] w fun e w' => e = .returned (.bool (s.data.toList.any bad)) ∧ Below w.heap.size w w' := by
  have hc : Calls Tryd.prog 33 #[.string s, .string ⟨#[61, 10]⟩] w fun e w' => AnyRes s e ∧ Below w.heap.size w w' := by
    by_cases h8 : s.size ≤ 8
    · exact any_short s w h8
    · exact any_long s w (by omega) hs
  have HC := Lib.hid hc
  clear hc
  go_enter Tryd.func27, Tryd.ntmps27
  go_wp2_with (go_at_call 33; refine HC.out.mono ?_; rintro e w' ⟨⟨n, rfl, hn⟩, hb⟩; have HN := Lib.hid hn; clear hn)
  go_ret
  exact ⟨ret_bool HN.out, hb⟩
theorem isKey_any (s : ByteArray) (w : World) (hs : s.size ≤ 1125899906842624) : Calls Tryd.prog 16 #[.string s] w fun e w' => e = .returned (.bool (Pax.isKey s.data.toList)) ∧ Below w.heap.size w w' := by
  have HC := Lib.hid (containsAny_any s w (by omega))
  cases he : s.data.toList with
  | nil =>
    have h0 : s.toList.isEmpty = true := by rw [Lib.toList_data, he]; rfl
    have h1 : s.toList = [] := by rw [Lib.toList_data, he]
    clear he
    go_enter Tryd.func16, Tryd.ntmps16
    go_wp2
    go_ret
    exact ⟨rfl, Below.refl _ _⟩
  | cons c l =>
    have h0 : s.toList.isEmpty = false := by rw [Lib.toList_data, he]; rfl
    have h1 : ¬ s.toList = [] := by rw [Lib.toList_data, he]; simp
    rw [he] at HC
    clear he
    go_enter Tryd.func16, Tryd.ntmps16
    go_wp2_with (go_at_call 27; refine HC.out.mono ?_; rintro e w' ⟨rfl, hb⟩)
    go_ret
    exact ⟨ret_bool (by simp [Pax.isKey, bad]; rfl), hb⟩
end Go.Proofs.YtbhdehkdnenigaaDoor
