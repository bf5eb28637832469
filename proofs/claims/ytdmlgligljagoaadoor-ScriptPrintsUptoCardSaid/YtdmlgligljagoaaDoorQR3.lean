/- Walk: a line's command: its words, the first word's kind, and what the kind's form says.
Plain: a line's words: what the printed walks compute is the plain functions, on lists of bytes.
Face: a line's command, told in the words of the kit's print.
The machine side of some functions, printed for this claim: each function has the answers of a plain one.
Plain law: the lines of a text, whether it is too long, and the commands that it says, as the machine tells them.
Plain law: the one form of a text in quotes, as the machine tells it.
Plain law: numbers, quoted texts and words are read as they were written.
The library's builder at this program's numbers: a text and a byte written, the text told.
Face: strconv.Itoa, told in the words of the kit's print.
Face: a step's line, told in the words of the kit's print. -/
import Derived.Lib.SplitLaws
import Derived.Lib.ItoaLen
import Derived.Shelf.Strings.BuilderF
import Derived.Shelf.Strings.BuilderK
import Derived.Test.YtdmlgligljagoaaDoorQR2
set_option linter.unusedVariables false
set_option linter.unusedSimpArgs false
namespace Go.Proofs.YtdmlgligljagoaaDoor
open Go.RowKit Go.Proofs.YtdmlgligljagoaaDoorW.PrintWords PS

def cmCells (c : S36) (v4 v7 : Value) : Array Value := #[.int .i64 c.f0, .int .i64 c.f1, .int .i64 c.f2, .int .i64 c.f3.f0, .string c.f3.f1, .string c.f3.f2, .string c.f3.f3, v4, .int .i64 c.f3.f5, .int .i64 c.f3.f6, v7, .string c.f4]
structure Cm (w0 wb : World) (R C g B : Nat) (wx : World) (c : S36) (v4 v7 : Value) (l : List S88) (br : Bool) : Prop where
  res : wx.heap[R]? = some (.cells (cmCells z36 (.slice none 0 0) (.slice none 0 0)) 36 (0, 0))
  box : wx.heap[C]? = some (.cells (cmCells c v4 v7) 36 (0, 0))
  r4 : Kd.R k38 38 wx B (fun _ => True) v4 c.f3.f4
  r7 : Kd.R (Kd.int .i64) 3 wx B (fun _ => True) v7 c.f3.f7
  rd : RD wb wx g l br
  below : Below w0.heap.size w0 wx
def cmdUp (t : ByteArray) : Nat → S36 × List S88 × Bool → S36 × List S88 × Bool
  | 0, s => s
  | n + 1, s =>
    match script_formOf.f ((n + 1 : Nat) : Int) with
    | some (wd, f) => if wd = t then
        let q := stepsV f.data.toList ⟨((n + 1 : Nat) : Int), ⟨#[]⟩, ⟨#[]⟩, ⟨#[]⟩, [], 0, 0, []⟩ (cmdUp t n s).2.1 (cmdUp t n s).2.2
        (⟨2, 0, 0, q.1, ⟨#[]⟩⟩, q.2) else cmdUp t n s
    | none => cmdUp t n s
def bWorld : ByteArray := ⟨#[119, 111, 114, 108, 100]⟩
def bValue : ByteArray := ⟨#[118, 97, 108, 117, 101]⟩
def bDigest : ByteArray := ⟨#[100, 105, 103, 101, 115, 116]⟩
def bUp : ByteArray := ⟨#[117, 112]⟩
def cmdW (t : ByteArray) (r : List S88) : S36 × List S88 × Bool :=
  if t = bWorld then (⟨1, (numN r false).1, (numN (numN r false).2.1 (numN r false).2.2).1, z34, ⟨#[]⟩⟩, (numN (numN r false).2.1 (numN r false).2.2).2)
  else if t = bValue then (⟨3, 0, 0, z34, (nextV true r false).1.f0⟩, (nextV true r false).2)
  else if t = bDigest then (⟨4, 0, 0, z34, ⟨#[]⟩⟩, r, false)
  else if t = bUp then (⟨5, 0, 0, z34, ⟨#[]⟩⟩, r, false)
  else cmdUp t 18 (z36, r, false)
def cmdV (l : List S88) (ok : Bool) : S36 × Bool :=
  match ok, l with
  | true, x :: r => if x.f1 = true then (z36, false) else ((cmdW x.f0 r).1, (cmdW x.f0 r).1.f0 != 0 && (!(cmdW x.f0 r).2.2 && (cmdW x.f0 r).2.1.isEmpty))
  | _, _ => (z36, false)
theorem form_all : ∀ n : Nat, n < 18 → ∃ wd f, script_formOf.f ((n + 1 : Nat) : Int) = some (wd, f) ∧ Letters f
  | 0, _ => ⟨_, _, rfl, by unfold Letters; decide⟩
  | 1, _ => ⟨_, _, rfl, by unfold Letters; decide⟩
  | 2, _ => ⟨_, _, rfl, by unfold Letters; decide⟩
  | 3, _ => ⟨_, _, rfl, by unfold Letters; decide⟩
  | 4, _ => ⟨_, _, rfl, by unfold Letters; decide⟩
  | 5, _ => ⟨_, _, rfl, by unfold Letters; decide⟩
  | 6, _ => ⟨_, _, rfl, by unfold Letters; decide⟩
  | 7, _ => ⟨_, _, rfl, by unfold Letters; decide⟩
  | 8, _ => ⟨_, _, rfl, by unfold Letters; decide⟩
  | 9, _ => ⟨_, _, rfl, by unfold Letters; decide⟩
  | 10, _ => ⟨_, _, rfl, by unfold Letters; decide⟩
  | 11, _ => ⟨_, _, rfl, by unfold Letters; decide⟩
  | 12, _ => ⟨_, _, rfl, by unfold Letters; decide⟩
  | 13, _ => ⟨_, _, rfl, by unfold Letters; decide⟩
  | 14, _ => ⟨_, _, rfl, by unfold Letters; decide⟩
  | 15, _ => ⟨_, _, rfl, by unfold Letters; decide⟩
  | 16, _ => ⟨_, _, rfl, by unfold Letters; decide⟩
  | 17, _ => ⟨_, _, rfl, by unfold Letters; decide⟩
  | n + 18, h => absurd h (by omega)
/-- the twelve stores into a command's block -/
theorem blk_all {wx : World} {k : Nat} {a0 a1 a2 a3 a4 a5 a6 a7 a8 a9 a10 a11 : Value} {t : TypeId} (h : wx.heap[k]? = some (.cells #[a0, a1, a2, a3, a4, a5, a6, a7, a8, a9, a10, a11] t (0, 0))) (u0 u1 u2 u3 u4 u5 u6 u7 u8 u9 u10 u11 : Value) :
    let W := (((((((((((wx.setCell ⟨k, 0, none⟩ u0).setCell ⟨k, 1, none⟩ u1).setCell ⟨k, 2, none⟩ u2).setCell ⟨k, 3, none⟩ u3).setCell ⟨k, 4, none⟩ u4).setCell ⟨k, 5, none⟩ u5).setCell ⟨k, 6, none⟩ u6).setCell ⟨k, 7, none⟩ u7).setCell ⟨k, 8, none⟩ u8).setCell ⟨k, 9, none⟩ u9).setCell ⟨k, 10, none⟩ u10).setCell ⟨k, 11, none⟩ u11
    W.heap[k]? = some (.cells #[u0, u1, u2, u3, u4, u5, u6, u7, u8, u9, u10, u11] t (0, 0)) ∧ (∀ j, j ≠ k → W.heap[j]? = wx.heap[j]?) ∧ W.heap.size = wx.heap.size ∧ ∀ B w0, Below B w0 wx → B ≤ k → Below B w0 W := by
  intro W
  refine ⟨?_, fun j hj => ?_, by simp [W, World.setCell], fun B w0 hB hk => ?_⟩
  · have h0 := zar h 0 u0 (show (#[a0, a1, a2, a3, a4, a5, a6, a7, a8, a9, a10, a11] : Array Value).setIfInBounds 0 u0 = #[u0, a1, a2, a3, a4, a5, a6, a7, a8, a9, a10, a11] from rfl)
    have h1 := zar h0 1 u1 (show (#[u0, a1, a2, a3, a4, a5, a6, a7, a8, a9, a10, a11] : Array Value).setIfInBounds 1 u1 = #[u0, u1, a2, a3, a4, a5, a6, a7, a8, a9, a10, a11] from rfl)
    have h2 := zar h1 2 u2 (show (#[u0, u1, a2, a3, a4, a5, a6, a7, a8, a9, a10, a11] : Array Value).setIfInBounds 2 u2 = #[u0, u1, u2, a3, a4, a5, a6, a7, a8, a9, a10, a11] from rfl)
    have h3 := zar h2 3 u3 (show (#[u0, u1, u2, a3, a4, a5, a6, a7, a8, a9, a10, a11] : Array Value).setIfInBounds 3 u3 = #[u0, u1, u2, u3, a4, a5, a6, a7, a8, a9, a10, a11] from rfl)
    have h4 := zar h3 4 u4 (show (#[u0, u1, u2, u3, a4, a5, a6, a7, a8, a9, a10, a11] : Array Value).setIfInBounds 4 u4 = #[u0, u1, u2, u3, u4, a5, a6, a7, a8, a9, a10, a11] from rfl)
    have h5 := zar h4 5 u5 (show (#[u0, u1, u2, u3, u4, a5, a6, a7, a8, a9, a10, a11] : Array Value).setIfInBounds 5 u5 = #[u0, u1, u2, u3, u4, u5, a6, a7, a8, a9, a10, a11] from rfl)
    have h6 := zar h5 6 u6 (show (#[u0, u1, u2, u3, u4, u5, a6, a7, a8, a9, a10, a11] : Array Value).setIfInBounds 6 u6 = #[u0, u1, u2, u3, u4, u5, u6, a7, a8, a9, a10, a11] from rfl)
    have h7 := zar h6 7 u7 (show (#[u0, u1, u2, u3, u4, u5, u6, a7, a8, a9, a10, a11] : Array Value).setIfInBounds 7 u7 = #[u0, u1, u2, u3, u4, u5, u6, u7, a8, a9, a10, a11] from rfl)
    have h8 := zar h7 8 u8 (show (#[u0, u1, u2, u3, u4, u5, u6, u7, a8, a9, a10, a11] : Array Value).setIfInBounds 8 u8 = #[u0, u1, u2, u3, u4, u5, u6, u7, u8, a9, a10, a11] from rfl)
    have h9 := zar h8 9 u9 (show (#[u0, u1, u2, u3, u4, u5, u6, u7, u8, a9, a10, a11] : Array Value).setIfInBounds 9 u9 = #[u0, u1, u2, u3, u4, u5, u6, u7, u8, u9, a10, a11] from rfl)
    have h10 := zar h9 10 u10 (show (#[u0, u1, u2, u3, u4, u5, u6, u7, u8, u9, a10, a11] : Array Value).setIfInBounds 10 u10 = #[u0, u1, u2, u3, u4, u5, u6, u7, u8, u9, u10, a11] from rfl)
    have h11 := zar h10 11 u11 (show (#[u0, u1, u2, u3, u4, u5, u6, u7, u8, u9, u10, a11] : Array Value).setIfInBounds 11 u11 = #[u0, u1, u2, u3, u4, u5, u6, u7, u8, u9, u10, u11] from rfl)
    exact h11
  · have ho : ∀ (V : World) (i : Nat) (u : Value), (V.setCell ⟨k, i, none⟩ u).heap[j]? = V.heap[j]? := fun V i u => Below.heap_setCell V ⟨k, i, none⟩ u j hj
    simp only [W, ho]
  · exact (((((((((((hB.setCell hk u0).setCell hk u1).setCell hk u2).setCell hk u3).setCell hk u4).setCell hk u5).setCell hk u6).setCell hk u7).setCell hk u8).setCell hk u9).setCell hk u10).setCell hk u11
theorem WB.nil : WB [] := ⟨by simp, fun x hx => by simp at hx⟩
theorem WB.appl {l : List S88} (h : WB l) (c : Nat) (s : S34) (br : Bool) : WB (applV c s l br).2.1 := by
  unfold applV
  repeat' split
  · exact h.next true br
  · exact h.next true br
  · exact h.next true br
  · exact h.next false br
  · exact h.next false br
  · exact WB.nil
  · exact WB.nil
theorem WB.steps : ∀ (f : List UInt8) (s : S34) (l : List S88) (br : Bool), WB l → WB (stepsV f s l br).2.1
  | [], s, l, br, h => h
  | c :: f, s, l, br, h => WB.steps f _ _ _ (h.appl c.toNat s br)
theorem str_true {b : ByteArray} {l : List UInt8} (h : b = ⟨l.toArray⟩) : (b.toList == l) = true := by
  subst h
  rw [Lib.toList_data]
  simp
theorem str_eq {b : ByteArray} : (b.toList == b.toList) = true := by simp
theorem str_ne {a b : ByteArray} (h : ¬ a = b) : (a.toList == b.toList) = false := by
  rw [beq_eq_false_iff_ne]
  intro e
  apply h
  rw [Lib.toList_data, Lib.toList_data] at e
  obtain ⟨c⟩ := a
  obtain ⟨d⟩ := b
  have : c = d := by simpa using e
  rw [this]
theorem str_false {b : ByteArray} {l : List UInt8} (h : ¬ b = ⟨l.toArray⟩) : (b.toList == l) = false := by
  rw [beq_eq_false_iff_ne]
  intro e
  apply h
  rw [Lib.toList_data] at e
  obtain ⟨d⟩ := b
  subst e
  rfl
section
variable {w0 wb wx W : World} {R C g B : Nat} {c c' : S36} {v4 v7 v4' v7' : Value} {l l' : List S88} {br br' : Bool}
theorem fld_form0 (a b : ByteArray) (W : World) : (Instr.field 94 (.agg #[.string a, .string b]) 0).run Tryd.prog W = .ok (.string a) W := by kernel_rfl
theorem Cm.call (h : Cm w0 wb R C g B wx c v4 v7 l br) (hRg : R ≠ g) (hCg : C ≠ g) (hgB : g < B) (hk : KeepBut wx W g none) (hr : RD wb W g l' br') (hb : Below w0.heap.size w0 W) : Cm w0 wb R C g B W c v4 v7 l' br' :=
  ⟨(hk.2 R (blk_lt h.res) hRg (by simp)).trans h.res, (hk.2 C (blk_lt h.box) hCg (by simp)).trans h.box, R_same h.r4 (fun k h1 h2 => hk.2 k h2 (by omega) (by simp)), R_same h.r7 (fun k h1 h2 => hk.2 k h2 (by omega) (by simp)), hr, hb⟩
theorem Cm.made (h : Cm w0 wb R C g B wx c v4 v7 l br) (hRg : R ≠ g) (hCg : C ≠ g) (hgB : g < B) (hb : Below wx.heap.size wx W) : Cm w0 wb R C g B W c v4 v7 l br :=
  h.call hRg hCg hgB (KeepBut.of_below hb g none) (h.rd.below hb) (h.below.trans (hb.mono h.below.size))
theorem Cm.put12 (h : Cm w0 wb R C g B wx c v4 v7 l br) (hRC : R ≠ C) (hgC : g ≠ C) (hCB : C < B) (hw : w0.heap.size ≤ C) (hb : wb.heap.size ≤ C) (c' : S36) (h4 : Kd.R k38 38 wx B (fun _ => True) v4' c'.f3.f4) (h7 : Kd.R (Kd.int .i64) 3 wx B (fun _ => True) v7' c'.f3.f7) :
    Cm w0 wb R C g B ((((((((((((wx.setCell ⟨C, 0, none⟩ (.int .i64 c'.f0)).setCell ⟨C, 1, none⟩ (.int .i64 c'.f1)).setCell ⟨C, 2, none⟩ (.int .i64 c'.f2)).setCell ⟨C, 3, none⟩ (.int .i64 c'.f3.f0)).setCell ⟨C, 4, none⟩ (.string c'.f3.f1)).setCell ⟨C, 5, none⟩ (.string c'.f3.f2)).setCell ⟨C, 6, none⟩ (.string c'.f3.f3)).setCell ⟨C, 7, none⟩ v4').setCell ⟨C, 8, none⟩ (.int .i64 c'.f3.f5)).setCell ⟨C, 9, none⟩ (.int .i64 c'.f3.f6)).setCell ⟨C, 10, none⟩ v7').setCell ⟨C, 11, none⟩ (.string c'.f4)) c' v4' v7' l br := by
  obtain ⟨h1, h2, h3, h5⟩ := blk_all h.box (.int .i64 c'.f0) (.int .i64 c'.f1) (.int .i64 c'.f2) (.int .i64 c'.f3.f0) (.string c'.f3.f1) (.string c'.f3.f2) (.string c'.f3.f3) v4' (.int .i64 c'.f3.f5) (.int .i64 c'.f3.f6) v7' (.string c'.f4)
  have hk := h.rd.keep
  exact ⟨(h2 R hRC).trans h.res, h1, R_same h4 (fun k hk _ => h2 k (by omega)), R_same h7 (fun k hk _ => h2 k (by omega)), rd_other h.rd (h2 g hgC) ⟨by rw [h3]; exact hk.1, fun k k1 k2 k3 => (h2 k (by omega)).trans (hk.2 k k1 k2 k3)⟩, h5 _ _ h.below hw⟩
theorem Cm.cast {p : S36 × List S88 × Bool} (h : Cm w0 wb R C g B wx c v4 v7 l br) (e : p = (c, l, br)) : Cm w0 wb R C g B wx p.1 v4 v7 p.2.1 p.2.2 := by
  subst e
  exact h
theorem Cm.ends (h : Cm w0 wb w0.heap.size C g B wx c v4 v7 l br) (hR : w0.heap.size < B) (u0 u1 u2 u3 u4 u5 u6 u7 u8 u9 u10 u11 : Value) :
    let W := (((((((((((wx.setCell ⟨w0.heap.size, 0, none⟩ u0).setCell ⟨w0.heap.size, 1, none⟩ u1).setCell ⟨w0.heap.size, 2, none⟩ u2).setCell ⟨w0.heap.size, 3, none⟩ u3).setCell ⟨w0.heap.size, 4, none⟩ u4).setCell ⟨w0.heap.size, 5, none⟩ u5).setCell ⟨w0.heap.size, 6, none⟩ u6).setCell ⟨w0.heap.size, 7, none⟩ u7).setCell ⟨w0.heap.size, 8, none⟩ u8).setCell ⟨w0.heap.size, 9, none⟩ u9).setCell ⟨w0.heap.size, 10, none⟩ u10).setCell ⟨w0.heap.size, 11, none⟩ u11
    Kd.R k38 38 W w0.heap.size (fun _ => True) v4 c.f3.f4 ∧ Kd.R (Kd.int .i64) 3 W w0.heap.size (fun _ => True) v7 c.f3.f7 ∧ Below w0.heap.size w0 W := by
  intro W
  obtain ⟨h1, h2, h3, h5⟩ := blk_all h.res u0 u1 u2 u3 u4 u5 u6 u7 u8 u9 u10 u11
  exact ⟨Kd.R_lower (R_same h.r4 (fun k hk _ => h2 k (by omega))) (by omega), Kd.R_lower (R_same h.r7 (fun k hk _ => h2 k (by omega))) (by omega), h5 _ _ h.below (Nat.le_refl _)⟩
theorem to_drew {V w9 : World} {B n : Nat} {u4 u7 : Value} {x4 : List S38} {x7 : List Int} (h : Kd.R k38 38 V B (fun _ => True) u4 x4 ∧ Kd.R (Kd.int .i64) 3 V B (fun _ => True) u7 x7 ∧ Below n w9 V) :
    Kd.R k38 38 V.drew B (fun _ => True) u4 x4 ∧ Kd.R (Kd.int .i64) 3 V.drew B (fun _ => True) u7 x7 ∧ Below n w9 V.drew :=
  ⟨R_same h.1 (fun k _ _ => rfl), R_same h.2.1 (fun k _ _ => rfl), below_drewN h.2.2 1⟩
theorem Cm.endsD (h : Cm w0 wb w0.heap.size C g B wx c v4 v7 l br) (hR : w0.heap.size < B) (u0 u1 u2 u3 u4 u5 u6 u7 u8 u9 u10 u11 : Value) :
    let W := (((((((((((wx.setCell ⟨w0.heap.size, 0, none⟩ u0).setCell ⟨w0.heap.size, 1, none⟩ u1).setCell ⟨w0.heap.size, 2, none⟩ u2).setCell ⟨w0.heap.size, 3, none⟩ u3).setCell ⟨w0.heap.size, 4, none⟩ u4).setCell ⟨w0.heap.size, 5, none⟩ u5).setCell ⟨w0.heap.size, 6, none⟩ u6).setCell ⟨w0.heap.size, 7, none⟩ u7).setCell ⟨w0.heap.size, 8, none⟩ u8).setCell ⟨w0.heap.size, 9, none⟩ u9).setCell ⟨w0.heap.size, 10, none⟩ u10).setCell ⟨w0.heap.size, 11, none⟩ u11
    Kd.R k38 38 W.drew w0.heap.size (fun _ => True) v4 c.f3.f4 ∧ Kd.R (Kd.int .i64) 3 W.drew w0.heap.size (fun _ => True) v7 c.f3.f7 ∧ Below w0.heap.size w0 W.drew := by
  intro W
  exact to_drew (h.ends hR u0 u1 u2 u3 u4 u5 u6 u7 u8 u9 u10 u11)
end
set_option maxRecDepth 100000 in
set_option maxHeartbeats 8000000 in
theorem command_any (a : ByteArray) (kw : Nat) (l : List S88) (ok : Bool) (w : World) (hT : Tab w) (hw : script_words.f kw a = some (l, ok)) (hW : WB l) (hne : ok = true → l ≠ []) (c : S36) (d : Bool) (hE : cmdV l ok = (c, d)) :
    Calls Tryd.prog 32 #[.string a] w fun e w' => ∃ v4 v7, e = .returned (.tuple #[.agg (cmCells c v4 v7), .bool d]) ∧
      Kd.R k38 38 w' w.heap.size (fun _ => True) v4 c.f3.f4 ∧ Kd.R (Kd.int .i64) 3 w' w.heap.size (fun _ => True) v7 c.f3.f7 ∧ Below w.heap.size w w' := by
  have HQ := fun W => Lib.hid (script_words.calls kw a l ok W hw)
  have HE := Lib.hid hE
  have HT := Lib.hid hT
  have HW := Lib.hid hW
  clear hw hE hT
  go_enter Tryd.func32, Tryd.ntmps32
  go_wp2_with fail
  refine (HQ _).out.mono ?_
  rintro e w1 ⟨v0, rfl, hr, hb1⟩
  obtain ⟨A0, c0, rfl⟩ := Kd.R_slice hr
  have HB1 := Lib.hid hb1
  have hres : w1.heap[w.heap.size]? = some (.cells (cmCells z36 (.slice none 0 0) (.slice none 0 0)) 36 (0, 0)) := (hb1.block _ (by simp)).trans (blk_new w _)
  have HS := Lib.hid hres
  have HB2 : Hid (Below w.heap.size w w1) := Lib.hid (((Below.refl w.heap.size w).alloc (Nat.le_refl _) _).trans (hb1.mono (by simp)))
  have d0 : w1.cell? ⟨w.heap.size, 0, none⟩ = some (.int .i64 0) := zaa hres 0
  have d1 : w1.cell? ⟨w.heap.size, 1, none⟩ = some (.int .i64 0) := zaa hres 1
  have d2 : w1.cell? ⟨w.heap.size, 2, none⟩ = some (.int .i64 0) := zaa hres 2
  have d3 : w1.cell? ⟨w.heap.size, 3, none⟩ = some (.int .i64 0) := zaa hres 3
  have d4 : w1.cell? ⟨w.heap.size, 4, none⟩ = some (.string ⟨#[]⟩) := zaa hres 4
  have d5 : w1.cell? ⟨w.heap.size, 5, none⟩ = some (.string ⟨#[]⟩) := zaa hres 5
  have d6 : w1.cell? ⟨w.heap.size, 6, none⟩ = some (.string ⟨#[]⟩) := zaa hres 6
  have d7 : w1.cell? ⟨w.heap.size, 7, none⟩ = some (.slice none 0 0) := zaa hres 7
  have d8 : w1.cell? ⟨w.heap.size, 8, none⟩ = some (.int .i64 0) := zaa hres 8
  have d9 : w1.cell? ⟨w.heap.size, 9, none⟩ = some (.int .i64 0) := zaa hres 9
  have d10 : w1.cell? ⟨w.heap.size, 10, none⟩ = some (.slice none 0 0) := zaa hres 10
  have d11 : w1.cell? ⟨w.heap.size, 11, none⟩ = some (.string ⟨#[]⟩) := zaa hres 11
  have fz : ∀ j, w1.frozen? ⟨w.heap.size, j, none⟩ = false := fun j => zab hres j
  have hs1 : w.heap.size + 1 ≤ w1.heap.size := by have := hb1.size; simpa using this
  clear hres hb1
  cases ok with
  | false =>
    have hE0 : (z36, false) = (c, d) := HE.out
    simp only [Prod.mk.injEq] at hE0
    obtain ⟨rfl, rfl⟩ := hE0
    go_wp2
    refine bodyPost_ret (v := .tuple #[.agg (cmCells z36 (.slice none 0 0) (.slice none 0 0)), .bool false]) (by simp [results, Tryd.results32, go_sem, d0, d1, d2, d3, d4, d5, d6, d7, d8, d9, d10, d11, fz]; rfl) rfl ⟨_, _, rfl, Kd.R_nil _ _ _ _ _, Kd.R_nil _ _ _ _ _, ?_⟩
    exact (blk_all HS.out _ _ _ _ _ _ _ _ _ _ _ _).2.2.2 _ _ HB2.out (Nat.le_refl _)
  | true =>
    cases l with
    | nil => exact absurd rfl (hne rfl)
    | cons x r =>
      have hl0 := (Kd.R_reads' hr).2.1
      have hrw : ∀ W, KeepBut w1 W w1.heap.size none → Kd.C k88 W A0 (x :: r).length (x :: r) := fun W hk => (Kd.R_reads' (R_same hr (fun k h1 h2 => hk.2 k h2 (by omega) (by simp)))).2.2
      obtain ⟨ad, e0, a0, a1⟩ := at_T88 (Kd.R_reads' hr).2.2 0 (by omega) (by simp)
      subst e0
      have b1 : w1.cell? ⟨ad.block, ad.off + 1, none⟩ = some (.bool x.f1) := by simpa [Addr.add, rd_T88] using a1
      have b0 : w1.cell? ad = some (.string x.f0) := by simpa [Addr.add, rd_T88] using a0
      clear a0 a1
      cases hx : x.f1 with
      | true =>
        have hE0 : (z36, false) = (c, d) := by have := HE.out; rwa [cmdV, if_pos hx] at this
        simp only [Prod.mk.injEq] at hE0
        obtain ⟨rfl, rfl⟩ := hE0
        rw [hx] at b1
        clear hr hrw
        go_wp2
        refine bodyPost_ret (v := .tuple #[.agg (cmCells z36 (.slice none 0 0) (.slice none 0 0)), .bool false]) (by simp [results, Tryd.results32, go_sem, d0, d1, d2, d3, d4, d5, d6, d7, d8, d9, d10, d11, fz]; rfl) rfl ⟨_, _, rfl, Kd.R_nil _ _ _ _ _, Kd.R_nil _ _ _ _ _, ?_⟩
        exact (blk_all HS.out _ _ _ _ _ _ _ _ _ _ _ _).2.2.2 _ _ HB2.out (Nat.le_refl _)
      | false =>
        rw [hx] at b1
        have hE0 := HE.out
        rw [cmdV, if_neg (by rw [hx]; simp)] at hE0
        simp only [Prod.mk.injEq] at hE0
        obtain ⟨hEc, hEd⟩ := hE0
        have HEC := Lib.hid hEc
        have HED := Lib.hid hEd
        obtain ⟨i0, hi, hz⟩ := Option.map_eq_some_iff.1 (show (Tryd.prog.info? 88).map (fun i => (i.zero, i.size, i.bytes)) = some (some (.agg #[.string ⟨#[]⟩, .bool false]), 2, 24) by kernel_rfl)
        simp only [Prod.mk.injEq] at hz
        have hc := cut_from (P := Tryd.prog) 84 88 .i64 Tryd.underlying84 hi 2 hz.2.1 (some ad) (r.length + 1) c0 1 (by decide) (by omega)
        have hcr : ∀ W, KeepBut w1 W w1.heap.size none → Kd.C k88 W (if c0 = 1 then some ad else (some ad).map (·.add (1 * 2))) r.length r := fun W hk => Kd.C_drop (m := 1) (c := c0) (hrw W hk) (by simp) hl0
        change ∀ W : World, (Instr.slice 84 (.slice (some ad) (r.length + 1) c0) (some (.int .i64 1)) none none).run Tryd.prog W = .ok (.slice (if c0 = 1 then some ad else (some ad).map (·.add (1 * 2))) r.length (c0 - 1)) W at hc
        generalize (if c0 = 1 then some ad else (some ad).map (·.add (1 * 2))) = A' at hc hcr
        have e0 : ∀ o1 o2, ((w1.alloc o1).alloc o2).cell? ad = some (.string x.f0) := fun o1 o2 => zbq (((Below.refl _ _).alloc (Nat.le_refl _) _).alloc (by simp) _) b0
        have HRW := Lib.hid hrw
        have HCN : ∀ n : Int, Hid (Cm w w1 w.heap.size (w1.heap.size + 1) w1.heap.size (w1.heap.size + 2) ((w1.alloc (.cells #[.slice A' r.length (c0 - 1), .bool false] 91)).alloc (.cells (cmCells ⟨n, 0, 0, z34, ⟨#[]⟩⟩ (.slice none 0 0) (.slice none 0 0)) 36)) ⟨n, 0, 0, z34, ⟨#[]⟩⟩ (.slice none 0 0) (.slice none 0 0) r false) := fun n =>
          Lib.hid ⟨zag (zag HS.out _) _, by simpa using blk_new (w1.alloc (.cells #[.slice A' r.length (c0 - 1), .bool false] 91)) _, Kd.R_nil _ _ _ _ _, Kd.R_nil _ _ _ _ _, RD.put (zag (blk_new _ _) _) (by simp at hl0; omega) hcr (KeepBut.of_below (((Below.refl _ _).alloc (Nat.le_refl _) _).alloc (by simp) _) _ _), (HB2.out.alloc HB2.out.size _).alloc (by have := HB2.out.size; simp; omega) _⟩
        have HCM := HCN 0
        clear hr hrw hcr hi hz hEc hEd
        have hWr : WB r := (HW.out.next false false |> fun _ => ⟨by have := HW.out.len; simp at this; omega, fun y hy => HW.out.all y (List.mem_cons_of_mem _ hy)⟩)
        have hsz := HB2.out.size
        by_cases g1 : x.f0 = bWorld
        · have t1 := str_true (l := [119, 111, 114, 108, 100]) g1
          have hcw : cmdW x.f0 r = (⟨1, (numN r false).1, (numN (numN r false).2.1 (numN r false).2.2).1, z34, ⟨#[]⟩⟩, (numN (numN r false).2.1 (numN r false).2.2).2) := by rw [cmdW, if_pos g1]
          clear g1
          have HN1 := fun W (h : Cm w w1 (w.heap.size) (w1.heap.size + 1) w1.heap.size (w1.heap.size + 2) W z36 (.slice none 0 0) (.slice none 0 0) r false) => Lib.hid (numN_any r false w1.heap.size w w1 W h.below (by omega) HT.out hWr h.rd)
          have hW2 : WB (numN r false).2.1 := hWr.next false false
          have HN2 := fun W (h : Cm w w1 (w.heap.size) (w1.heap.size + 1) w1.heap.size (w1.heap.size + 2) W z36 (.slice none 0 0) (.slice none 0 0) (numN r false).2.1 (numN r false).2.2) => Lib.hid (numN_any (numN r false).2.1 (numN r false).2.2 w1.heap.size w w1 W h.below (by omega) HT.out hW2 h.rd)
          go_wp2_with fail
          refine (HN1 _ HCM.out).out.mono ?_
          rintro e w2 ⟨rfl, r1, r2, r3⟩
          have HC2 := Lib.hid (HCM.out.call (by omega) (by omega) (by omega) r2 r1 r3)
          clear r1 r2 r3
          go_wp2_with fail
          refine (HN2 _ HC2.out).out.mono ?_
          rintro e w3 ⟨rfl, r1, r2, r3⟩
          have HC3 := Lib.hid (HC2.out.call (by omega) (by omega) (by omega) r2 r1 r3)
          clear r1 r2 r3
          have k0 : w3.cell? ⟨w1.heap.size + 1, 0, none⟩ = some (.int .i64 0) := zaa HC3.out.box 0
          have k1 : w3.cell? ⟨w1.heap.size + 1, 1, none⟩ = some (.int .i64 0) := zaa HC3.out.box 1
          have k2 : w3.cell? ⟨w1.heap.size + 1, 2, none⟩ = some (.int .i64 0) := zaa HC3.out.box 2
          have k3 : w3.cell? ⟨w1.heap.size + 1, 3, none⟩ = some (.int .i64 0) := zaa HC3.out.box 3
          have k4 : w3.cell? ⟨w1.heap.size + 1, 4, none⟩ = some (.string ⟨#[]⟩) := zaa HC3.out.box 4
          have k5 : w3.cell? ⟨w1.heap.size + 1, 5, none⟩ = some (.string ⟨#[]⟩) := zaa HC3.out.box 5
          have k6 : w3.cell? ⟨w1.heap.size + 1, 6, none⟩ = some (.string ⟨#[]⟩) := zaa HC3.out.box 6
          have k7 : w3.cell? ⟨w1.heap.size + 1, 7, none⟩ = some (.slice none 0 0) := zaa HC3.out.box 7
          have k8 : w3.cell? ⟨w1.heap.size + 1, 8, none⟩ = some (.int .i64 0) := zaa HC3.out.box 8
          have k9 : w3.cell? ⟨w1.heap.size + 1, 9, none⟩ = some (.int .i64 0) := zaa HC3.out.box 9
          have k10 : w3.cell? ⟨w1.heap.size + 1, 10, none⟩ = some (.slice none 0 0) := zaa HC3.out.box 10
          have k11 : w3.cell? ⟨w1.heap.size + 1, 11, none⟩ = some (.string ⟨#[]⟩) := zaa HC3.out.box 11
          have kz : ∀ j, w3.frozen? ⟨w1.heap.size + 1, j, none⟩ = false := fun j => zab HC3.out.box j
          have HM := Lib.hid (HC3.out.put12 (by omega) (by omega) (by omega) (by omega) (by omega) ⟨1, (numN r false).1, (numN (numN r false).2.1 (numN r false).2.2).1, z34, ⟨#[]⟩⟩ (Kd.R_nil _ _ _ _ _) (Kd.R_nil _ _ _ _ _))
          go_wp2_with fail
          have HM1 := Lib.hid (Cm.cast HM.out hcw)
          generalize hwx : World.setCell _ ⟨w1.heap.size + 1, 11, none⟩ _ = wx
          obtain ⟨v4, v7, HM2⟩ : ∃ v4 v7, Hid (Cm w w1 w.heap.size (w1.heap.size + 1) w1.heap.size (w1.heap.size + 2) wx (cmdW x.f0 r).1 v4 v7 (cmdW x.f0 r).2.1 (cmdW x.f0 r).2.2) := ⟨_, _, by rw [← hwx]; exact HM1⟩
          clear hwx HM1 HM
          have hd := HED.out
          rw [HEC.out] at hd HM2
          generalize (cmdW x.f0 r).2.1 = ll at *
          generalize (cmdW x.f0 r).2.2 = bb at *
          obtain ⟨A4, c4, rfl⟩ := R_C HM2.out.r4
          obtain ⟨A7, c7, rfl⟩ := R_C HM2.out.r7
          have k0 : wx.cell? ⟨w1.heap.size + 1, 0, none⟩ = some (.int .i64 c.f0) := zaa HM2.out.box 0
          have k1 : wx.cell? ⟨w1.heap.size + 1, 1, none⟩ = some (.int .i64 c.f1) := zaa HM2.out.box 1
          have k2 : wx.cell? ⟨w1.heap.size + 1, 2, none⟩ = some (.int .i64 c.f2) := zaa HM2.out.box 2
          have k3 : wx.cell? ⟨w1.heap.size + 1, 3, none⟩ = some (.int .i64 c.f3.f0) := zaa HM2.out.box 3
          have k4 : wx.cell? ⟨w1.heap.size + 1, 4, none⟩ = some (.string c.f3.f1) := zaa HM2.out.box 4
          have k5 : wx.cell? ⟨w1.heap.size + 1, 5, none⟩ = some (.string c.f3.f2) := zaa HM2.out.box 5
          have k6 : wx.cell? ⟨w1.heap.size + 1, 6, none⟩ = some (.string c.f3.f3) := zaa HM2.out.box 6
          have k7 : wx.cell? ⟨w1.heap.size + 1, 7, none⟩ = some (.slice A4 c.f3.f4.length c4) := zaa HM2.out.box 7
          have k8 : wx.cell? ⟨w1.heap.size + 1, 8, none⟩ = some (.int .i64 c.f3.f5) := zaa HM2.out.box 8
          have k9 : wx.cell? ⟨w1.heap.size + 1, 9, none⟩ = some (.int .i64 c.f3.f6) := zaa HM2.out.box 9
          have k10 : wx.cell? ⟨w1.heap.size + 1, 10, none⟩ = some (.slice A7 c.f3.f7.length c7) := zaa HM2.out.box 10
          have k11 : wx.cell? ⟨w1.heap.size + 1, 11, none⟩ = some (.string c.f4) := zaa HM2.out.box 11
          have kz : ∀ j, wx.frozen? ⟨w1.heap.size + 1, j, none⟩ = false := fun j => zab HM2.out.box j
          have m0 : wx.cell? ⟨w.heap.size, 0, none⟩ = some (.int .i64 0) := zaa HM2.out.res 0
          have m1 : wx.cell? ⟨w.heap.size, 1, none⟩ = some (.int .i64 0) := zaa HM2.out.res 1
          have m2 : wx.cell? ⟨w.heap.size, 2, none⟩ = some (.int .i64 0) := zaa HM2.out.res 2
          have m3 : wx.cell? ⟨w.heap.size, 3, none⟩ = some (.int .i64 0) := zaa HM2.out.res 3
          have m4 : wx.cell? ⟨w.heap.size, 4, none⟩ = some (.string ⟨#[]⟩) := zaa HM2.out.res 4
          have m5 : wx.cell? ⟨w.heap.size, 5, none⟩ = some (.string ⟨#[]⟩) := zaa HM2.out.res 5
          have m6 : wx.cell? ⟨w.heap.size, 6, none⟩ = some (.string ⟨#[]⟩) := zaa HM2.out.res 6
          have m7 : wx.cell? ⟨w.heap.size, 7, none⟩ = some (.slice none 0 0) := zaa HM2.out.res 7
          have m8 : wx.cell? ⟨w.heap.size, 8, none⟩ = some (.int .i64 0) := zaa HM2.out.res 8
          have m9 : wx.cell? ⟨w.heap.size, 9, none⟩ = some (.int .i64 0) := zaa HM2.out.res 9
          have m10 : wx.cell? ⟨w.heap.size, 10, none⟩ = some (.slice none 0 0) := zaa HM2.out.res 10
          have m11 : wx.cell? ⟨w.heap.size, 11, none⟩ = some (.string ⟨#[]⟩) := zaa HM2.out.res 11
          have mz : ∀ j, wx.frozen? ⟨w.heap.size, j, none⟩ = false := fun j => zab HM2.out.res j
          have HDN := fun W (hb : Below wx.heap.size wx W) => Lib.hid (done_any ll bb (w1.heap.size) w1 W (HM2.out.rd.below hb))
          have HEnd := fun W (hb : Below wx.heap.size wx W) => Lib.hid ((HM2.out.made (by omega) (by omega) (by omega) hb).ends (by omega) (.int .i64 c.f0) (.int .i64 c.f1) (.int .i64 c.f2) (.int .i64 c.f3.f0) (.string c.f3.f1) (.string c.f3.f2) (.string c.f3.f3) (.slice A4 c.f3.f4.length c4) (.int .i64 c.f3.f5) (.int .i64 c.f3.f6) (.slice A7 c.f3.f7.length c7) (.string c.f4))
          have HEndD := Lib.hid (HM2.out.endsD (by omega) (.int .i64 c.f0) (.int .i64 c.f1) (.int .i64 c.f2) (.int .i64 c.f3.f0) (.string c.f3.f1) (.string c.f3.f2) (.string c.f3.f3) (.slice A4 c.f3.f4.length c4) (.int .i64 c.f3.f5) (.int .i64 c.f3.f6) (.slice A7 c.f3.f7.length c7) (.string c.f4))
          cases hz : (c.f0 != 0) with
          | false =>
            rw [hz] at hd
            rw [Bool.false_and] at hd
            subst hd
            have hz0 : c.f0 = 0 := by simpa using hz
            clear hz
            obtain ⟨q0, q1, q2, q3, q4⟩ := c
            obtain rfl : q0 = 0 := hz0
            dsimp only at k0 k1 k2 k3 k4 k5 k6 k7 k8 k9 k10 k11 HEndD
            go_wp2_with fail
            go_region
            all_goals
              go_wp2
              refine bodyPost_ret (v := .tuple #[.agg (cmCells ⟨0, q1, q2, q3, q4⟩ (.slice A4 q3.f4.length c4) (.slice A7 q3.f7.length c7)), .bool false]) (by simp [results, Tryd.results32, go_sem, m0, m1, m2, m3, m4, m5, m6, m7, m8, m9, m10, m11, mz]; rfl) rfl ⟨_, _, by rw [], HEndD.out⟩
          | true =>
            rw [hz] at hd
            rw [Bool.true_and] at hd
            have HD2 := Lib.hid hd
            clear hd
            go_wp2_with fail
            go_region_law (go_simp; go_at_call 45; refine (HDN _ (below_drewN (Below.refl _ _) 1)).out.mono ?_; rintro e w9 ⟨rfl, rfl⟩)
            all_goals
              go_wp2
              refine bodyPost_ret (v := .tuple #[.agg (cmCells c (.slice A4 c.f3.f4.length c4) (.slice A7 c.f3.f7.length c7)), .bool (!bb && ll.isEmpty)]) (by simp [results, Tryd.results32, go_sem, m0, m1, m2, m3, m4, m5, m6, m7, m8, m9, m10, m11, mz]; rfl) rfl ⟨_, _, by rw [← HD2.out], (HEnd _ (below_drewN (Below.refl _ _) 1)).out⟩
        · have t1 := str_false (l := [119, 111, 114, 108, 100]) g1
          by_cases g2 : x.f0 = bValue
          · have t2 := str_true (l := [118, 97, 108, 117, 101]) g2
            have hcw : cmdW x.f0 r = (⟨3, 0, 0, z34, (nextV true r false).1.f0⟩, (nextV true r false).2) := by rw [cmdW, if_neg g1, if_pos g2]
            clear g1 g2
            have HQ1 := fun W (h : Cm w w1 (w.heap.size) (w1.heap.size + 1) w1.heap.size (w1.heap.size + 2) W z36 (.slice none 0 0) (.slice none 0 0) r false) => Lib.hid (quote_any r false w1.heap.size w w1 W h.below (by omega) h.rd)
            go_wp2_with fail
            refine (HQ1 _ HCM.out).out.mono ?_
            rintro e w2 ⟨rfl, r1, r2, r3⟩
            have HC2 := Lib.hid (HCM.out.call (by omega) (by omega) (by omega) r2 r1 r3)
            clear r1 r2 r3
            have k0 : w2.cell? ⟨w1.heap.size + 1, 0, none⟩ = some (.int .i64 0) := zaa HC2.out.box 0
            have k1 : w2.cell? ⟨w1.heap.size + 1, 1, none⟩ = some (.int .i64 0) := zaa HC2.out.box 1
            have k2 : w2.cell? ⟨w1.heap.size + 1, 2, none⟩ = some (.int .i64 0) := zaa HC2.out.box 2
            have k3 : w2.cell? ⟨w1.heap.size + 1, 3, none⟩ = some (.int .i64 0) := zaa HC2.out.box 3
            have k4 : w2.cell? ⟨w1.heap.size + 1, 4, none⟩ = some (.string ⟨#[]⟩) := zaa HC2.out.box 4
            have k5 : w2.cell? ⟨w1.heap.size + 1, 5, none⟩ = some (.string ⟨#[]⟩) := zaa HC2.out.box 5
            have k6 : w2.cell? ⟨w1.heap.size + 1, 6, none⟩ = some (.string ⟨#[]⟩) := zaa HC2.out.box 6
            have k7 : w2.cell? ⟨w1.heap.size + 1, 7, none⟩ = some (.slice none 0 0) := zaa HC2.out.box 7
            have k8 : w2.cell? ⟨w1.heap.size + 1, 8, none⟩ = some (.int .i64 0) := zaa HC2.out.box 8
            have k9 : w2.cell? ⟨w1.heap.size + 1, 9, none⟩ = some (.int .i64 0) := zaa HC2.out.box 9
            have k10 : w2.cell? ⟨w1.heap.size + 1, 10, none⟩ = some (.slice none 0 0) := zaa HC2.out.box 10
            have k11 : w2.cell? ⟨w1.heap.size + 1, 11, none⟩ = some (.string ⟨#[]⟩) := zaa HC2.out.box 11
            have kz : ∀ j, w2.frozen? ⟨w1.heap.size + 1, j, none⟩ = false := fun j => zab HC2.out.box j
            have HM := Lib.hid (HC2.out.put12 (by omega) (by omega) (by omega) (by omega) (by omega) ⟨3, 0, 0, z34, (nextV true r false).1.f0⟩ (Kd.R_nil _ _ _ _ _) (Kd.R_nil _ _ _ _ _))
            go_wp2_with fail
            have HM1 := Lib.hid (Cm.cast HM.out hcw)
            generalize hwx : World.setCell _ ⟨w1.heap.size + 1, 11, none⟩ _ = wx
            obtain ⟨v4, v7, HM2⟩ : ∃ v4 v7, Hid (Cm w w1 w.heap.size (w1.heap.size + 1) w1.heap.size (w1.heap.size + 2) wx (cmdW x.f0 r).1 v4 v7 (cmdW x.f0 r).2.1 (cmdW x.f0 r).2.2) := ⟨_, _, by rw [← hwx]; exact HM1⟩
            clear hwx HM1 HM
            have hd := HED.out
            rw [HEC.out] at hd HM2
            generalize (cmdW x.f0 r).2.1 = ll at *
            generalize (cmdW x.f0 r).2.2 = bb at *
            obtain ⟨A4, c4, rfl⟩ := R_C HM2.out.r4
            obtain ⟨A7, c7, rfl⟩ := R_C HM2.out.r7
            have k0 : wx.cell? ⟨w1.heap.size + 1, 0, none⟩ = some (.int .i64 c.f0) := zaa HM2.out.box 0
            have k1 : wx.cell? ⟨w1.heap.size + 1, 1, none⟩ = some (.int .i64 c.f1) := zaa HM2.out.box 1
            have k2 : wx.cell? ⟨w1.heap.size + 1, 2, none⟩ = some (.int .i64 c.f2) := zaa HM2.out.box 2
            have k3 : wx.cell? ⟨w1.heap.size + 1, 3, none⟩ = some (.int .i64 c.f3.f0) := zaa HM2.out.box 3
            have k4 : wx.cell? ⟨w1.heap.size + 1, 4, none⟩ = some (.string c.f3.f1) := zaa HM2.out.box 4
            have k5 : wx.cell? ⟨w1.heap.size + 1, 5, none⟩ = some (.string c.f3.f2) := zaa HM2.out.box 5
            have k6 : wx.cell? ⟨w1.heap.size + 1, 6, none⟩ = some (.string c.f3.f3) := zaa HM2.out.box 6
            have k7 : wx.cell? ⟨w1.heap.size + 1, 7, none⟩ = some (.slice A4 c.f3.f4.length c4) := zaa HM2.out.box 7
            have k8 : wx.cell? ⟨w1.heap.size + 1, 8, none⟩ = some (.int .i64 c.f3.f5) := zaa HM2.out.box 8
            have k9 : wx.cell? ⟨w1.heap.size + 1, 9, none⟩ = some (.int .i64 c.f3.f6) := zaa HM2.out.box 9
            have k10 : wx.cell? ⟨w1.heap.size + 1, 10, none⟩ = some (.slice A7 c.f3.f7.length c7) := zaa HM2.out.box 10
            have k11 : wx.cell? ⟨w1.heap.size + 1, 11, none⟩ = some (.string c.f4) := zaa HM2.out.box 11
            have kz : ∀ j, wx.frozen? ⟨w1.heap.size + 1, j, none⟩ = false := fun j => zab HM2.out.box j
            have m0 : wx.cell? ⟨w.heap.size, 0, none⟩ = some (.int .i64 0) := zaa HM2.out.res 0
            have m1 : wx.cell? ⟨w.heap.size, 1, none⟩ = some (.int .i64 0) := zaa HM2.out.res 1
            have m2 : wx.cell? ⟨w.heap.size, 2, none⟩ = some (.int .i64 0) := zaa HM2.out.res 2
            have m3 : wx.cell? ⟨w.heap.size, 3, none⟩ = some (.int .i64 0) := zaa HM2.out.res 3
            have m4 : wx.cell? ⟨w.heap.size, 4, none⟩ = some (.string ⟨#[]⟩) := zaa HM2.out.res 4
            have m5 : wx.cell? ⟨w.heap.size, 5, none⟩ = some (.string ⟨#[]⟩) := zaa HM2.out.res 5
            have m6 : wx.cell? ⟨w.heap.size, 6, none⟩ = some (.string ⟨#[]⟩) := zaa HM2.out.res 6
            have m7 : wx.cell? ⟨w.heap.size, 7, none⟩ = some (.slice none 0 0) := zaa HM2.out.res 7
            have m8 : wx.cell? ⟨w.heap.size, 8, none⟩ = some (.int .i64 0) := zaa HM2.out.res 8
            have m9 : wx.cell? ⟨w.heap.size, 9, none⟩ = some (.int .i64 0) := zaa HM2.out.res 9
            have m10 : wx.cell? ⟨w.heap.size, 10, none⟩ = some (.slice none 0 0) := zaa HM2.out.res 10
            have m11 : wx.cell? ⟨w.heap.size, 11, none⟩ = some (.string ⟨#[]⟩) := zaa HM2.out.res 11
            have mz : ∀ j, wx.frozen? ⟨w.heap.size, j, none⟩ = false := fun j => zab HM2.out.res j
            have HDN := fun W (hb : Below wx.heap.size wx W) => Lib.hid (done_any ll bb (w1.heap.size) w1 W (HM2.out.rd.below hb))
            have HEnd := fun W (hb : Below wx.heap.size wx W) => Lib.hid ((HM2.out.made (by omega) (by omega) (by omega) hb).ends (by omega) (.int .i64 c.f0) (.int .i64 c.f1) (.int .i64 c.f2) (.int .i64 c.f3.f0) (.string c.f3.f1) (.string c.f3.f2) (.string c.f3.f3) (.slice A4 c.f3.f4.length c4) (.int .i64 c.f3.f5) (.int .i64 c.f3.f6) (.slice A7 c.f3.f7.length c7) (.string c.f4))
            have HEndD := Lib.hid (HM2.out.endsD (by omega) (.int .i64 c.f0) (.int .i64 c.f1) (.int .i64 c.f2) (.int .i64 c.f3.f0) (.string c.f3.f1) (.string c.f3.f2) (.string c.f3.f3) (.slice A4 c.f3.f4.length c4) (.int .i64 c.f3.f5) (.int .i64 c.f3.f6) (.slice A7 c.f3.f7.length c7) (.string c.f4))
            cases hz : (c.f0 != 0) with
            | false =>
              rw [hz] at hd
              rw [Bool.false_and] at hd
              subst hd
              have hz0 : c.f0 = 0 := by simpa using hz
              clear hz
              obtain ⟨q0, q1, q2, q3, q4⟩ := c
              obtain rfl : q0 = 0 := hz0
              dsimp only at k0 k1 k2 k3 k4 k5 k6 k7 k8 k9 k10 k11 HEndD
              go_wp2_with fail
              go_region
              all_goals
                go_wp2
                refine bodyPost_ret (v := .tuple #[.agg (cmCells ⟨0, q1, q2, q3, q4⟩ (.slice A4 q3.f4.length c4) (.slice A7 q3.f7.length c7)), .bool false]) (by simp [results, Tryd.results32, go_sem, m0, m1, m2, m3, m4, m5, m6, m7, m8, m9, m10, m11, mz]; rfl) rfl ⟨_, _, by rw [], HEndD.out⟩
            | true =>
              rw [hz] at hd
              rw [Bool.true_and] at hd
              have HD2 := Lib.hid hd
              clear hd
              go_wp2_with fail
              go_region_law (go_simp; go_at_call 45; refine (HDN _ (below_drewN (Below.refl _ _) 1)).out.mono ?_; rintro e w9 ⟨rfl, rfl⟩)
              all_goals
                go_wp2
                refine bodyPost_ret (v := .tuple #[.agg (cmCells c (.slice A4 c.f3.f4.length c4) (.slice A7 c.f3.f7.length c7)), .bool (!bb && ll.isEmpty)]) (by simp [results, Tryd.results32, go_sem, m0, m1, m2, m3, m4, m5, m6, m7, m8, m9, m10, m11, mz]; rfl) rfl ⟨_, _, by rw [← HD2.out], (HEnd _ (below_drewN (Below.refl _ _) 1)).out⟩
          · have t2 := str_false (l := [118, 97, 108, 117, 101]) g2
            by_cases g3 : x.f0 = bDigest
            · have t3 := str_true (l := [100, 105, 103, 101, 115, 116]) g3
              have hcw : cmdW x.f0 r = (⟨4, 0, 0, z34, ⟨#[]⟩⟩, r, false) := by rw [cmdW, if_neg g1, if_neg g2, if_pos g3]
              clear g1 g2 g3
              have HM := HCN 4
              go_wp2_with fail
              have HM1 := Lib.hid (Cm.cast HM.out hcw)
              generalize hwx : World.alloc (World.alloc w1 _) _ = wx
              obtain ⟨v4, v7, HM2⟩ : ∃ v4 v7, Hid (Cm w w1 w.heap.size (w1.heap.size + 1) w1.heap.size (w1.heap.size + 2) wx (cmdW x.f0 r).1 v4 v7 (cmdW x.f0 r).2.1 (cmdW x.f0 r).2.2) := ⟨_, _, by rw [← hwx]; exact HM1⟩
              clear hwx HM1 HM
              have hd := HED.out
              rw [HEC.out] at hd HM2
              generalize (cmdW x.f0 r).2.1 = ll at *
              generalize (cmdW x.f0 r).2.2 = bb at *
              obtain ⟨A4, c4, rfl⟩ := R_C HM2.out.r4
              obtain ⟨A7, c7, rfl⟩ := R_C HM2.out.r7
              have k0 : wx.cell? ⟨w1.heap.size + 1, 0, none⟩ = some (.int .i64 c.f0) := zaa HM2.out.box 0
              have k1 : wx.cell? ⟨w1.heap.size + 1, 1, none⟩ = some (.int .i64 c.f1) := zaa HM2.out.box 1
              have k2 : wx.cell? ⟨w1.heap.size + 1, 2, none⟩ = some (.int .i64 c.f2) := zaa HM2.out.box 2
              have k3 : wx.cell? ⟨w1.heap.size + 1, 3, none⟩ = some (.int .i64 c.f3.f0) := zaa HM2.out.box 3
              have k4 : wx.cell? ⟨w1.heap.size + 1, 4, none⟩ = some (.string c.f3.f1) := zaa HM2.out.box 4
              have k5 : wx.cell? ⟨w1.heap.size + 1, 5, none⟩ = some (.string c.f3.f2) := zaa HM2.out.box 5
              have k6 : wx.cell? ⟨w1.heap.size + 1, 6, none⟩ = some (.string c.f3.f3) := zaa HM2.out.box 6
              have k7 : wx.cell? ⟨w1.heap.size + 1, 7, none⟩ = some (.slice A4 c.f3.f4.length c4) := zaa HM2.out.box 7
              have k8 : wx.cell? ⟨w1.heap.size + 1, 8, none⟩ = some (.int .i64 c.f3.f5) := zaa HM2.out.box 8
              have k9 : wx.cell? ⟨w1.heap.size + 1, 9, none⟩ = some (.int .i64 c.f3.f6) := zaa HM2.out.box 9
              have k10 : wx.cell? ⟨w1.heap.size + 1, 10, none⟩ = some (.slice A7 c.f3.f7.length c7) := zaa HM2.out.box 10
              have k11 : wx.cell? ⟨w1.heap.size + 1, 11, none⟩ = some (.string c.f4) := zaa HM2.out.box 11
              have kz : ∀ j, wx.frozen? ⟨w1.heap.size + 1, j, none⟩ = false := fun j => zab HM2.out.box j
              have m0 : wx.cell? ⟨w.heap.size, 0, none⟩ = some (.int .i64 0) := zaa HM2.out.res 0
              have m1 : wx.cell? ⟨w.heap.size, 1, none⟩ = some (.int .i64 0) := zaa HM2.out.res 1
              have m2 : wx.cell? ⟨w.heap.size, 2, none⟩ = some (.int .i64 0) := zaa HM2.out.res 2
              have m3 : wx.cell? ⟨w.heap.size, 3, none⟩ = some (.int .i64 0) := zaa HM2.out.res 3
              have m4 : wx.cell? ⟨w.heap.size, 4, none⟩ = some (.string ⟨#[]⟩) := zaa HM2.out.res 4
              have m5 : wx.cell? ⟨w.heap.size, 5, none⟩ = some (.string ⟨#[]⟩) := zaa HM2.out.res 5
              have m6 : wx.cell? ⟨w.heap.size, 6, none⟩ = some (.string ⟨#[]⟩) := zaa HM2.out.res 6
              have m7 : wx.cell? ⟨w.heap.size, 7, none⟩ = some (.slice none 0 0) := zaa HM2.out.res 7
              have m8 : wx.cell? ⟨w.heap.size, 8, none⟩ = some (.int .i64 0) := zaa HM2.out.res 8
              have m9 : wx.cell? ⟨w.heap.size, 9, none⟩ = some (.int .i64 0) := zaa HM2.out.res 9
              have m10 : wx.cell? ⟨w.heap.size, 10, none⟩ = some (.slice none 0 0) := zaa HM2.out.res 10
              have m11 : wx.cell? ⟨w.heap.size, 11, none⟩ = some (.string ⟨#[]⟩) := zaa HM2.out.res 11
              have mz : ∀ j, wx.frozen? ⟨w.heap.size, j, none⟩ = false := fun j => zab HM2.out.res j
              have HDN := fun W (hb : Below wx.heap.size wx W) => Lib.hid (done_any ll bb (w1.heap.size) w1 W (HM2.out.rd.below hb))
              have HEnd := fun W (hb : Below wx.heap.size wx W) => Lib.hid ((HM2.out.made (by omega) (by omega) (by omega) hb).ends (by omega) (.int .i64 c.f0) (.int .i64 c.f1) (.int .i64 c.f2) (.int .i64 c.f3.f0) (.string c.f3.f1) (.string c.f3.f2) (.string c.f3.f3) (.slice A4 c.f3.f4.length c4) (.int .i64 c.f3.f5) (.int .i64 c.f3.f6) (.slice A7 c.f3.f7.length c7) (.string c.f4))
              have HEndD := Lib.hid (HM2.out.endsD (by omega) (.int .i64 c.f0) (.int .i64 c.f1) (.int .i64 c.f2) (.int .i64 c.f3.f0) (.string c.f3.f1) (.string c.f3.f2) (.string c.f3.f3) (.slice A4 c.f3.f4.length c4) (.int .i64 c.f3.f5) (.int .i64 c.f3.f6) (.slice A7 c.f3.f7.length c7) (.string c.f4))
              cases hz : (c.f0 != 0) with
              | false =>
                rw [hz] at hd
                rw [Bool.false_and] at hd
                subst hd
                have hz0 : c.f0 = 0 := by simpa using hz
                clear hz
                obtain ⟨q0, q1, q2, q3, q4⟩ := c
                obtain rfl : q0 = 0 := hz0
                dsimp only at k0 k1 k2 k3 k4 k5 k6 k7 k8 k9 k10 k11 HEndD
                go_wp2_with fail
                go_region
                all_goals
                  go_wp2
                  refine bodyPost_ret (v := .tuple #[.agg (cmCells ⟨0, q1, q2, q3, q4⟩ (.slice A4 q3.f4.length c4) (.slice A7 q3.f7.length c7)), .bool false]) (by simp [results, Tryd.results32, go_sem, m0, m1, m2, m3, m4, m5, m6, m7, m8, m9, m10, m11, mz]; rfl) rfl ⟨_, _, by rw [], HEndD.out⟩
              | true =>
                rw [hz] at hd
                rw [Bool.true_and] at hd
                have HD2 := Lib.hid hd
                clear hd
                go_wp2_with fail
                go_region_law (go_simp; go_at_call 45; refine (HDN _ (below_drewN (Below.refl _ _) 1)).out.mono ?_; rintro e w9 ⟨rfl, rfl⟩)
                all_goals
                  go_wp2
                  refine bodyPost_ret (v := .tuple #[.agg (cmCells c (.slice A4 c.f3.f4.length c4) (.slice A7 c.f3.f7.length c7)), .bool (!bb && ll.isEmpty)]) (by simp [results, Tryd.results32, go_sem, m0, m1, m2, m3, m4, m5, m6, m7, m8, m9, m10, m11, mz]; rfl) rfl ⟨_, _, by rw [← HD2.out], (HEnd _ (below_drewN (Below.refl _ _) 1)).out⟩
            · have t3 := str_false (l := [100, 105, 103, 101, 115, 116]) g3
              by_cases g4 : x.f0 = bUp
              · have t4 := str_true (l := [117, 112]) g4
                have hcw : cmdW x.f0 r = (⟨5, 0, 0, z34, ⟨#[]⟩⟩, r, false) := by rw [cmdW, if_neg g1, if_neg g2, if_neg g3, if_pos g4]
                clear g1 g2 g3 g4
                have HM := HCN 5
                go_wp2_with fail
                have HM1 := Lib.hid (Cm.cast HM.out hcw)
                generalize hwx : World.alloc (World.alloc w1 _) _ = wx
                obtain ⟨v4, v7, HM2⟩ : ∃ v4 v7, Hid (Cm w w1 w.heap.size (w1.heap.size + 1) w1.heap.size (w1.heap.size + 2) wx (cmdW x.f0 r).1 v4 v7 (cmdW x.f0 r).2.1 (cmdW x.f0 r).2.2) := ⟨_, _, by rw [← hwx]; exact HM1⟩
                clear hwx HM1 HM
                have hd := HED.out
                rw [HEC.out] at hd HM2
                generalize (cmdW x.f0 r).2.1 = ll at *
                generalize (cmdW x.f0 r).2.2 = bb at *
                obtain ⟨A4, c4, rfl⟩ := R_C HM2.out.r4
                obtain ⟨A7, c7, rfl⟩ := R_C HM2.out.r7
                have k0 : wx.cell? ⟨w1.heap.size + 1, 0, none⟩ = some (.int .i64 c.f0) := zaa HM2.out.box 0
                have k1 : wx.cell? ⟨w1.heap.size + 1, 1, none⟩ = some (.int .i64 c.f1) := zaa HM2.out.box 1
                have k2 : wx.cell? ⟨w1.heap.size + 1, 2, none⟩ = some (.int .i64 c.f2) := zaa HM2.out.box 2
                have k3 : wx.cell? ⟨w1.heap.size + 1, 3, none⟩ = some (.int .i64 c.f3.f0) := zaa HM2.out.box 3
                have k4 : wx.cell? ⟨w1.heap.size + 1, 4, none⟩ = some (.string c.f3.f1) := zaa HM2.out.box 4
                have k5 : wx.cell? ⟨w1.heap.size + 1, 5, none⟩ = some (.string c.f3.f2) := zaa HM2.out.box 5
                have k6 : wx.cell? ⟨w1.heap.size + 1, 6, none⟩ = some (.string c.f3.f3) := zaa HM2.out.box 6
                have k7 : wx.cell? ⟨w1.heap.size + 1, 7, none⟩ = some (.slice A4 c.f3.f4.length c4) := zaa HM2.out.box 7
                have k8 : wx.cell? ⟨w1.heap.size + 1, 8, none⟩ = some (.int .i64 c.f3.f5) := zaa HM2.out.box 8
                have k9 : wx.cell? ⟨w1.heap.size + 1, 9, none⟩ = some (.int .i64 c.f3.f6) := zaa HM2.out.box 9
                have k10 : wx.cell? ⟨w1.heap.size + 1, 10, none⟩ = some (.slice A7 c.f3.f7.length c7) := zaa HM2.out.box 10
                have k11 : wx.cell? ⟨w1.heap.size + 1, 11, none⟩ = some (.string c.f4) := zaa HM2.out.box 11
                have kz : ∀ j, wx.frozen? ⟨w1.heap.size + 1, j, none⟩ = false := fun j => zab HM2.out.box j
                have m0 : wx.cell? ⟨w.heap.size, 0, none⟩ = some (.int .i64 0) := zaa HM2.out.res 0
                have m1 : wx.cell? ⟨w.heap.size, 1, none⟩ = some (.int .i64 0) := zaa HM2.out.res 1
                have m2 : wx.cell? ⟨w.heap.size, 2, none⟩ = some (.int .i64 0) := zaa HM2.out.res 2
                have m3 : wx.cell? ⟨w.heap.size, 3, none⟩ = some (.int .i64 0) := zaa HM2.out.res 3
                have m4 : wx.cell? ⟨w.heap.size, 4, none⟩ = some (.string ⟨#[]⟩) := zaa HM2.out.res 4
                have m5 : wx.cell? ⟨w.heap.size, 5, none⟩ = some (.string ⟨#[]⟩) := zaa HM2.out.res 5
                have m6 : wx.cell? ⟨w.heap.size, 6, none⟩ = some (.string ⟨#[]⟩) := zaa HM2.out.res 6
                have m7 : wx.cell? ⟨w.heap.size, 7, none⟩ = some (.slice none 0 0) := zaa HM2.out.res 7
                have m8 : wx.cell? ⟨w.heap.size, 8, none⟩ = some (.int .i64 0) := zaa HM2.out.res 8
                have m9 : wx.cell? ⟨w.heap.size, 9, none⟩ = some (.int .i64 0) := zaa HM2.out.res 9
                have m10 : wx.cell? ⟨w.heap.size, 10, none⟩ = some (.slice none 0 0) := zaa HM2.out.res 10
                have m11 : wx.cell? ⟨w.heap.size, 11, none⟩ = some (.string ⟨#[]⟩) := zaa HM2.out.res 11
                have mz : ∀ j, wx.frozen? ⟨w.heap.size, j, none⟩ = false := fun j => zab HM2.out.res j
                have HDN := fun W (hb : Below wx.heap.size wx W) => Lib.hid (done_any ll bb (w1.heap.size) w1 W (HM2.out.rd.below hb))
                have HEnd := fun W (hb : Below wx.heap.size wx W) => Lib.hid ((HM2.out.made (by omega) (by omega) (by omega) hb).ends (by omega) (.int .i64 c.f0) (.int .i64 c.f1) (.int .i64 c.f2) (.int .i64 c.f3.f0) (.string c.f3.f1) (.string c.f3.f2) (.string c.f3.f3) (.slice A4 c.f3.f4.length c4) (.int .i64 c.f3.f5) (.int .i64 c.f3.f6) (.slice A7 c.f3.f7.length c7) (.string c.f4))
                have HEndD := Lib.hid (HM2.out.endsD (by omega) (.int .i64 c.f0) (.int .i64 c.f1) (.int .i64 c.f2) (.int .i64 c.f3.f0) (.string c.f3.f1) (.string c.f3.f2) (.string c.f3.f3) (.slice A4 c.f3.f4.length c4) (.int .i64 c.f3.f5) (.int .i64 c.f3.f6) (.slice A7 c.f3.f7.length c7) (.string c.f4))
                cases hz : (c.f0 != 0) with
                | false =>
                  rw [hz] at hd
                  rw [Bool.false_and] at hd
                  subst hd
                  have hz0 : c.f0 = 0 := by simpa using hz
                  clear hz
                  obtain ⟨q0, q1, q2, q3, q4⟩ := c
                  obtain rfl : q0 = 0 := hz0
                  dsimp only at k0 k1 k2 k3 k4 k5 k6 k7 k8 k9 k10 k11 HEndD
                  go_wp2_with fail
                  go_region
                  all_goals
                    go_wp2
                    refine bodyPost_ret (v := .tuple #[.agg (cmCells ⟨0, q1, q2, q3, q4⟩ (.slice A4 q3.f4.length c4) (.slice A7 q3.f7.length c7)), .bool false]) (by simp [results, Tryd.results32, go_sem, m0, m1, m2, m3, m4, m5, m6, m7, m8, m9, m10, m11, mz]; rfl) rfl ⟨_, _, by rw [], HEndD.out⟩
                | true =>
                  rw [hz] at hd
                  rw [Bool.true_and] at hd
                  have HD2 := Lib.hid hd
                  clear hd
                  go_wp2_with fail
                  go_region_law (go_simp; go_at_call 45; refine (HDN _ (below_drewN (Below.refl _ _) 1)).out.mono ?_; rintro e w9 ⟨rfl, rfl⟩)
                  all_goals
                    go_wp2
                    refine bodyPost_ret (v := .tuple #[.agg (cmCells c (.slice A4 c.f3.f4.length c4) (.slice A7 c.f3.f7.length c7)), .bool (!bb && ll.isEmpty)]) (by simp [results, Tryd.results32, go_sem, m0, m1, m2, m3, m4, m5, m6, m7, m8, m9, m10, m11, mz]; rfl) rfl ⟨_, _, by rw [← HD2.out], (HEnd _ (below_drewN (Below.refl _ _) 1)).out⟩
              · have t4 := str_false (l := [117, 112]) g4
                have hcw : cmdW x.f0 r = cmdUp x.f0 18 (z36, r, false) := by rw [cmdW, if_neg g1, if_neg g2, if_neg g3, if_neg g4]
                clear g1 g2 g3 g4
                go_wp2_with fail
                go_loopg [8] 18 (fun gk v8 wx => ∃ (n : Nat) (cx : S36) (v4 v7 : Value) (lx : List S88) (bx : Bool), n + gk = 18 ∧ v8 = .int .i64 ((n : Int) + 1) ∧ Hid (Cm w w1 w.heap.size (w1.heap.size + 1) w1.heap.size (w1.heap.size + 2) wx cx v4 v7 lx bx) ∧ Hid (cmdUp x.f0 n (z36, r, false) = (cx, lx, bx)) ∧ Hid (WB lx))
                case atStart => exact ⟨0, _, _, _, _, _, by omega, rfl, HCM, rfl, hWr⟩
                case round =>
                  obtain ⟨n, cx, v4, v7, lx, bx, hn, rfl, HC, HU, HWx⟩ := hrel
                  cases gk with
                  | zero =>
                    obtain rfl : n = 18 := by omega
                    have HM2 := Lib.hid (Cm.cast HC.out (hcw.trans HU.out))
                    clear HC HU
                    go_wp2_with fail
                    have hd := HED.out
                    rw [HEC.out] at hd HM2
                    generalize (cmdW x.f0 r).2.1 = ll at *
                    generalize (cmdW x.f0 r).2.2 = bb at *
                    obtain ⟨A4, c4, rfl⟩ := R_C HM2.out.r4
                    obtain ⟨A7, c7, rfl⟩ := R_C HM2.out.r7
                    have k0 : wr.cell? ⟨w1.heap.size + 1, 0, none⟩ = some (.int .i64 c.f0) := zaa HM2.out.box 0
                    have k1 : wr.cell? ⟨w1.heap.size + 1, 1, none⟩ = some (.int .i64 c.f1) := zaa HM2.out.box 1
                    have k2 : wr.cell? ⟨w1.heap.size + 1, 2, none⟩ = some (.int .i64 c.f2) := zaa HM2.out.box 2
                    have k3 : wr.cell? ⟨w1.heap.size + 1, 3, none⟩ = some (.int .i64 c.f3.f0) := zaa HM2.out.box 3
                    have k4 : wr.cell? ⟨w1.heap.size + 1, 4, none⟩ = some (.string c.f3.f1) := zaa HM2.out.box 4
                    have k5 : wr.cell? ⟨w1.heap.size + 1, 5, none⟩ = some (.string c.f3.f2) := zaa HM2.out.box 5
                    have k6 : wr.cell? ⟨w1.heap.size + 1, 6, none⟩ = some (.string c.f3.f3) := zaa HM2.out.box 6
                    have k7 : wr.cell? ⟨w1.heap.size + 1, 7, none⟩ = some (.slice A4 c.f3.f4.length c4) := zaa HM2.out.box 7
                    have k8 : wr.cell? ⟨w1.heap.size + 1, 8, none⟩ = some (.int .i64 c.f3.f5) := zaa HM2.out.box 8
                    have k9 : wr.cell? ⟨w1.heap.size + 1, 9, none⟩ = some (.int .i64 c.f3.f6) := zaa HM2.out.box 9
                    have k10 : wr.cell? ⟨w1.heap.size + 1, 10, none⟩ = some (.slice A7 c.f3.f7.length c7) := zaa HM2.out.box 10
                    have k11 : wr.cell? ⟨w1.heap.size + 1, 11, none⟩ = some (.string c.f4) := zaa HM2.out.box 11
                    have kz : ∀ j, wr.frozen? ⟨w1.heap.size + 1, j, none⟩ = false := fun j => zab HM2.out.box j
                    have m0 : wr.cell? ⟨w.heap.size, 0, none⟩ = some (.int .i64 0) := zaa HM2.out.res 0
                    have m1 : wr.cell? ⟨w.heap.size, 1, none⟩ = some (.int .i64 0) := zaa HM2.out.res 1
                    have m2 : wr.cell? ⟨w.heap.size, 2, none⟩ = some (.int .i64 0) := zaa HM2.out.res 2
                    have m3 : wr.cell? ⟨w.heap.size, 3, none⟩ = some (.int .i64 0) := zaa HM2.out.res 3
                    have m4 : wr.cell? ⟨w.heap.size, 4, none⟩ = some (.string ⟨#[]⟩) := zaa HM2.out.res 4
                    have m5 : wr.cell? ⟨w.heap.size, 5, none⟩ = some (.string ⟨#[]⟩) := zaa HM2.out.res 5
                    have m6 : wr.cell? ⟨w.heap.size, 6, none⟩ = some (.string ⟨#[]⟩) := zaa HM2.out.res 6
                    have m7 : wr.cell? ⟨w.heap.size, 7, none⟩ = some (.slice none 0 0) := zaa HM2.out.res 7
                    have m8 : wr.cell? ⟨w.heap.size, 8, none⟩ = some (.int .i64 0) := zaa HM2.out.res 8
                    have m9 : wr.cell? ⟨w.heap.size, 9, none⟩ = some (.int .i64 0) := zaa HM2.out.res 9
                    have m10 : wr.cell? ⟨w.heap.size, 10, none⟩ = some (.slice none 0 0) := zaa HM2.out.res 10
                    have m11 : wr.cell? ⟨w.heap.size, 11, none⟩ = some (.string ⟨#[]⟩) := zaa HM2.out.res 11
                    have mz : ∀ j, wr.frozen? ⟨w.heap.size, j, none⟩ = false := fun j => zab HM2.out.res j
                    have HDN := fun W (hb : Below wr.heap.size wr W) => Lib.hid (done_any ll bb (w1.heap.size) w1 W (HM2.out.rd.below hb))
                    have HEnd := fun W (hb : Below wr.heap.size wr W) => Lib.hid ((HM2.out.made (by omega) (by omega) (by omega) hb).ends (by omega) (.int .i64 c.f0) (.int .i64 c.f1) (.int .i64 c.f2) (.int .i64 c.f3.f0) (.string c.f3.f1) (.string c.f3.f2) (.string c.f3.f3) (.slice A4 c.f3.f4.length c4) (.int .i64 c.f3.f5) (.int .i64 c.f3.f6) (.slice A7 c.f3.f7.length c7) (.string c.f4))
                    have HEndD := Lib.hid (HM2.out.endsD (by omega) (.int .i64 c.f0) (.int .i64 c.f1) (.int .i64 c.f2) (.int .i64 c.f3.f0) (.string c.f3.f1) (.string c.f3.f2) (.string c.f3.f3) (.slice A4 c.f3.f4.length c4) (.int .i64 c.f3.f5) (.int .i64 c.f3.f6) (.slice A7 c.f3.f7.length c7) (.string c.f4))
                    cases hz : (c.f0 != 0) with
                    | false =>
                      rw [hz] at hd
                      rw [Bool.false_and] at hd
                      subst hd
                      have hz0 : c.f0 = 0 := by simpa using hz
                      clear hz
                      obtain ⟨q0, q1, q2, q3, q4⟩ := c
                      obtain rfl : q0 = 0 := hz0
                      dsimp only at k0 k1 k2 k3 k4 k5 k6 k7 k8 k9 k10 k11 HEndD
                      go_wp2_with fail
                      go_region
                      all_goals
                        go_wp2
                        refine bodyPost_ret (v := .tuple #[.agg (cmCells ⟨0, q1, q2, q3, q4⟩ (.slice A4 q3.f4.length c4) (.slice A7 q3.f7.length c7)), .bool false]) (by simp [results, Tryd.results32, go_sem, m0, m1, m2, m3, m4, m5, m6, m7, m8, m9, m10, m11, mz]; rfl) rfl ⟨_, _, by rw [], HEndD.out⟩
                    | true =>
                      rw [hz] at hd
                      rw [Bool.true_and] at hd
                      have HD2 := Lib.hid hd
                      clear hd
                      go_wp2_with fail
                      go_region_law (go_simp; go_at_call 45; refine (HDN _ (below_drewN (Below.refl _ _) 1)).out.mono ?_; rintro e w9 ⟨rfl, rfl⟩)
                      all_goals
                        go_wp2
                        refine bodyPost_ret (v := .tuple #[.agg (cmCells c (.slice A4 c.f3.f4.length c4) (.slice A7 c.f3.f7.length c7)), .bool (!bb && ll.isEmpty)]) (by simp [results, Tryd.results32, go_sem, m0, m1, m2, m3, m4, m5, m6, m7, m8, m9, m10, m11, mz]; rfl) rfl ⟨_, _, by rw [← HD2.out], (HEnd _ (below_drewN (Below.refl _ _) 1)).out⟩
                  | succ go =>
                    obtain ⟨wd, f, hf, hL⟩ := form_all n (by omega)
                    have hu : cmdUp x.f0 (n + 1) (z36, r, false) = if wd = x.f0 then (⟨2, 0, 0, (stepsV f.data.toList ⟨((n + 1 : Nat) : Int), ⟨#[]⟩, ⟨#[]⟩, ⟨#[]⟩, [], 0, 0, []⟩ lx bx).1, ⟨#[]⟩⟩, (stepsV f.data.toList ⟨((n + 1 : Nat) : Int), ⟨#[]⟩, ⟨#[]⟩, ⟨#[]⟩, [], 0, 0, []⟩ lx bx).2) else (cx, lx, bx) := by rw [cmdUp, hf]; dsimp only; rw [HU.out]
                    rw [show ((n + 1 : Nat) : Int) = (n : Int) + 1 by omega] at hf hu
                    have HF := fun W => Lib.hid (script_formOf.calls ((n : Int) + 1) wd f W hf)
                    have HST := fun W (hW : Cm w w1 w.heap.size (w1.heap.size + 1) w1.heap.size (w1.heap.size + 2) W cx v4 v7 lx bx) (hg : w1.heap.size < W.heap.size) => Lib.hid (step_any ((n : Int) + 1) wd f hf hL lx bx w1.heap.size w w1 W hW.below (by omega) hg HT.out HWx.out hW.rd _ _ _ rfl)
                    have hws := WB.steps f.data.toList ⟨(n : Int) + 1, ⟨#[]⟩, ⟨#[]⟩, ⟨#[]⟩, [], 0, 0, []⟩ lx bx HWx.out
                    generalize stepsV f.data.toList ⟨(n : Int) + 1, ⟨#[]⟩, ⟨#[]⟩, ⟨#[]⟩, [], 0, 0, []⟩ lx bx = q at *
                    have HWS := Lib.hid hws
                    obtain ⟨ad2, e2, a0, a1⟩ := at_T88 (HRW.out wr HC.out.rd.keep) 0 (by omega) (by simp)
                    obtain rfl : ad2 = ad := by simpa using e2.symm
                    have b2 : wr.cell? ad2 = some (.string x.f0) := by simpa [Addr.add, rd_T88] using a0
                    have b3 : wr.drew.cell? ad2 = some (.string x.f0) := b2
                    have hfl := fld_form wd f
                    have hfl0 := fld_form0 wd f
                    clear a0 a1 e2 hf hL hws
                    by_cases hw : wd = x.f0
                    · rw [if_pos hw] at hu
                      subst hw
                      have t5 := str_eq (b := x.f0)
                      have HUN := Lib.hid hu
                      clear hu
                      go_wp2_with fail
                      go_region_law (go_simp; go_at_call 43; refine (HF _).out.mono ?_; rintro e w2 ⟨rfl, hb2⟩; have HC2 := Lib.hid (HC.out.made (by omega) (by omega) (by omega) ((below_drewN (Below.refl _ _) 1).trans hb2)); have b4 := zbq hb2 b3; clear hb2)
                      all_goals
                        go_wp2_with fail
                        refine (HST _ HC2.out (by have := blk_lt HC2.out.box; omega)).out.mono ?_
                        rintro e w3 ⟨v4', v7', rfl, q4, q7, q1, q2, q3⟩
                        have q4' := Kd.R_lower q4 (show w1.heap.size + 2 ≤ w2.heap.size by have := blk_lt HC2.out.box; omega)
                        have q7' := Kd.R_lower q7 (show w1.heap.size + 2 ≤ w2.heap.size by have := blk_lt HC2.out.box; omega)
                        obtain ⟨A4, c4, rfl⟩ := R_C q4
                        obtain ⟨A7, c7, rfl⟩ := R_C q7
                        have HC3 := Lib.hid (HC2.out.call (by omega) (by omega) (by omega) q2 q1 q3)
                        have HM := Lib.hid (HC3.out.put12 (by omega) (by omega) (by omega) (by omega) (by omega) ⟨2, 0, 0, q.1, ⟨#[]⟩⟩ q4' q7')
                        have k0 : w3.cell? ⟨w1.heap.size + 1, 0, none⟩ = some (.int .i64 cx.f0) := zaa HC3.out.box 0
                        have k1 : w3.cell? ⟨w1.heap.size + 1, 1, none⟩ = some (.int .i64 cx.f1) := zaa HC3.out.box 1
                        have k2 : w3.cell? ⟨w1.heap.size + 1, 2, none⟩ = some (.int .i64 cx.f2) := zaa HC3.out.box 2
                        have k3 : w3.cell? ⟨w1.heap.size + 1, 3, none⟩ = some (.int .i64 cx.f3.f0) := zaa HC3.out.box 3
                        have k4 : w3.cell? ⟨w1.heap.size + 1, 4, none⟩ = some (.string cx.f3.f1) := zaa HC3.out.box 4
                        have k5 : w3.cell? ⟨w1.heap.size + 1, 5, none⟩ = some (.string cx.f3.f2) := zaa HC3.out.box 5
                        have k6 : w3.cell? ⟨w1.heap.size + 1, 6, none⟩ = some (.string cx.f3.f3) := zaa HC3.out.box 6
                        have k7 : w3.cell? ⟨w1.heap.size + 1, 7, none⟩ = some (v4) := zaa HC3.out.box 7
                        have k8 : w3.cell? ⟨w1.heap.size + 1, 8, none⟩ = some (.int .i64 cx.f3.f5) := zaa HC3.out.box 8
                        have k9 : w3.cell? ⟨w1.heap.size + 1, 9, none⟩ = some (.int .i64 cx.f3.f6) := zaa HC3.out.box 9
                        have k10 : w3.cell? ⟨w1.heap.size + 1, 10, none⟩ = some (v7) := zaa HC3.out.box 10
                        have k11 : w3.cell? ⟨w1.heap.size + 1, 11, none⟩ = some (.string cx.f4) := zaa HC3.out.box 11
                        have kz : ∀ j, w3.frozen? ⟨w1.heap.size + 1, j, none⟩ = false := fun j => zab HC3.out.box j
                        clear q4 q7 q1 q2 q3 q4' q7'
                        go_wp2
                        go_roundg go
                        case measure => omega
                        case rel => exact ⟨n + 1, _, _, _, _, _, by omega, by rw [show ((n + 1 : Nat) : Int) = (n : Int) + 1 by omega], HM, HUN, HWS⟩
                    · rw [if_neg hw] at hu
                      have t5 := str_ne hw
                      have HUN := Lib.hid hu
                      clear hu hw
                      go_wp2_with fail
                      go_region_law (go_simp; go_at_call 43; refine (HF _).out.mono ?_; rintro e w2 ⟨rfl, hb2⟩; have HC2 := Lib.hid (HC.out.made (by omega) (by omega) (by omega) ((below_drewN (Below.refl _ _) 1).trans hb2)); have b4 := zbq hb2 b3; clear hb2)
                      all_goals
                        go_wp2
                        go_roundg go
                        case measure => omega
                        case rel => exact ⟨n + 1, _, _, _, _, _, by omega, by rw [show ((n + 1 : Nat) : Int) = (n : Int) + 1 by omega], HC2, HUN, HWx⟩
end Go.Proofs.YtdmlgligljagoaaDoor

set_option linter.unusedVariables false
set_option linter.unusedSimpArgs false
namespace Go.Proofs.YtdmlgligljagoaaDoor
open Go.RowKit Go.Proofs.YtdmlgligljagoaaDoorW.PrintWords PS

/-- the value of a digit; -1: it is none -/
def hexV (c : UInt8) : Int := if 48 ≤ c.toNat ∧ c.toNat ≤ 57 then (c.toNat : Int) - 48 else if 97 ≤ c.toNat ∧ c.toNat ≤ 102 then (c.toNat : Int) - 87 else -1
def hexDigits : List UInt8 := [48, 49, 50, 51, 52, 53, 54, 55, 56, 57, 97, 98, 99, 100, 101, 102]
theorem hex_index (c : UInt8) : Lib.indexByte hexDigits c = hexV c := by
  have h : ∀ n : Fin 256, Lib.indexByte hexDigits (UInt8.ofNat n.val) = hexV (UInt8.ofNat n.val) := by decide +kernel
  have := h ⟨c.toNat, c.toNat_lt⟩
  simpa using this
theorem hexV_lt (c : UInt8) : hexV c ≤ 15 := by unfold hexV; repeat' split <;> omega
theorem digit_is (s : List UInt8) (i : Nat) : script_digit.f (bs s) (i : Int) = some (if h : i < s.length then hexV (s[i]'h) else -1) := by
  unfold script_digit.f
  rw [zao]
  by_cases h : i < s.length
  · rw [if_neg (by omega), if_pos (by omega), if_pos (by omega), bt_bs s i h, dif_pos h]
    unfold strings_IndexByte.f
    rw [Option.bind_some, Int.toNat_natCast, ← hex_index]
    simp [hexDigits]
  · rw [if_pos (by omega), dif_neg h]
/-- the text that a list of bytes says behind its opening quote, and what stands behind the closing one -/
def quotedL : List UInt8 → Option (List UInt8 × List UInt8)
  | [] => none
  | c :: r =>
    if c = 34 then some ([], r)
    else if c.toNat < 32 ∨ 126 < c.toNat then none
    else if c ≠ 92 then (quotedL r).map fun p => (c :: p.1, p.2)
    else match r with
      | [] => none
      | e :: r1 =>
        if e = 34 ∨ e = 92 then (quotedL r1).map fun p => (e :: p.1, p.2)
        else if e = 120 then
          match r1 with
          | a :: b :: r3 => if 0 ≤ hexV a ∧ 0 ≤ hexV b then (quotedL r3).map fun p => (UInt8.ofNat (16 * hexV a + hexV b).toNat :: p.1, p.2) else none
          | _ => none
        else none
def nums (l : List UInt8) : List Int := l.map fun c => (c.toNat : Int)
def resQ (acc : List Int) : Option (List UInt8 × List UInt8) → ByteArray × ByteArray × Bool
  | none => (⟨#[]⟩, ⟨#[]⟩, false)
  | some (t, r) => (strOfNums (acc ++ nums t), bs r, true)
theorem resQ_cons (acc : List Int) (c : UInt8) (o : Option (List UInt8 × List UInt8)) : resQ acc (o.map fun p => (c :: p.1, p.2)) = resQ (acc ++ [(c.toNat : Int)]) o := by
  cases o with
  | none => rfl
  | some p => simp [resQ, nums]
theorem u8_34 (c : UInt8) : (c.toNat : Int) = 34 ↔ c = 34 := by
  constructor
  · intro h; exact UInt8.toNat_inj.1 (by simpa using (by omega : c.toNat = 34))
  · rintro rfl; rfl
theorem u8_92 (c : UInt8) : (c.toNat : Int) = 92 ↔ c = 92 := by
  constructor
  · intro h; exact UInt8.toNat_inj.1 (by simpa using (by omega : c.toNat = 92))
  · rintro rfl; rfl
theorem u8_120 (c : UInt8) : (c.toNat : Int) = 120 ↔ c = 120 := by
  constructor
  · intro h; exact UInt8.toNat_inj.1 (by simpa using (by omega : c.toNat = 120))
  · rintro rfl; rfl
theorem w64p {n : Nat} (m : Nat) (h : n + m ≤ 9223372036854775807) : wrap64 ((n : Int) + (m : Int)) = ((n + m : Nat) : Int) := by unfold wrap64; omega
set_option maxHeartbeats 1000000 in
theorem quoted_go (s : List UInt8) (hs : s.length ≤ 4294967296) :
    ∀ d i (acc : List Int), i + d = s.length → acc.length ≤ i → Ev (fun k => script_quoted.l0 k (bs s) acc (i : Int)) (resQ acc (quotedL (s.drop i))) := by
  intro d
  induction d using Nat.strongRecOn with
  | ind d ih =>
    intro i acc hi ha
    have hz : ((bs s).size : Int) = (s.length : Int) := by rw [zao]
    have p1 : wrap64 ((i : Int) + 1) = ((i + 1 : Nat) : Int) := w64p 1 (by omega)
    have p2 : wrap64 ((i : Int) + 2) = ((i + 2 : Nat) : Int) := w64p 2 (by omega)
    have p3 : wrap64 ((i : Int) + 3) = ((i + 3 : Nat) : Int) := w64p 3 (by omega)
    have p4 : wrap64 ((i : Int) + 4) = ((i + 4 : Nat) : Int) := w64p 4 (by omega)
    by_cases hlt : i < s.length
    · have b0 : bt (bs s) (i : Int) = ((s[i]'hlt).toNat : Int) := bt_bs s i hlt
      rw [List.drop_eq_getElem_cons hlt]
      have hn := ih (d - 1) (by omega) (i + 1)
      generalize hc : s[i] = c at b0 ⊢
      unfold quotedL
      by_cases c34 : c = 34
      · rw [if_pos c34]
        refine Ev.step (f := fun _ => some _) (fun k => ?_) (Ev.now _)
        rw [script_quoted.l0, hz, if_pos (by omega), if_pos (by omega), b0, if_pos ((u8_34 c).2 c34), if_neg (by omega), p1, if_pos (by omega), if_pos (by omega), bs_extract, Int.toNat_natCast, zao, take_drop_len]
        simp [resQ, nums]
      · rw [if_neg c34]
        have hne : ¬ (c.toNat : Int) = 34 := fun h => c34 ((u8_34 c).1 h)
        by_cases hr : c.toNat < 32 ∨ 126 < c.toNat
        · rw [if_pos hr]
          refine Ev.step (f := fun k => script_quoted.j1 k (bs s) acc i (c.toNat : Int) true) (fun k => ?_) (Ev.step (f := fun _ => some _) (fun k => ?_) (Ev.now _))
          · rw [script_quoted.l0, hz, if_pos (by omega), if_pos (by omega), b0, if_neg hne]
            by_cases h32 : (c.toNat : Int) < 32
            · rw [if_pos h32]
            · rw [if_neg h32, show decide ((c.toNat : Int) > 126) = true from decide_eq_true (by omega)]
          · rw [script_quoted.j1, if_pos rfl]; rfl
        · rw [if_neg hr]
          refine Ev.step (f := fun k => script_quoted.j1 k (bs s) acc i (c.toNat : Int) false) (fun k => ?_) ?_
          · rw [script_quoted.l0, hz, if_pos (by omega), if_pos (by omega), b0, if_neg hne, if_neg (by omega), show decide ((c.toNat : Int) > 126) = false from decide_eq_false (by omega)]
          by_cases c92 : c = 92
          · rw [if_neg (by simp [c92])]
            have h92 : (c.toNat : Int) = 92 := (u8_92 c).2 c92
            by_cases hl1 : i + 1 < s.length
            · have b1 : bt (bs s) ((i + 1 : Nat) : Int) = ((s[i + 1]'hl1).toNat : Int) := bt_bs s (i + 1) hl1
              rw [List.drop_eq_getElem_cons hl1]
              dsimp only
              have hn2 := ih (d - 2) (by omega) (i + 2)
              generalize he : s[i + 1] = e at b1 ⊢
              by_cases hq : e = 34 ∨ e = 92
              · rw [if_pos hq, resQ_cons]
                refine Ev.step (f := fun k => script_quoted.j2 k (bs s) acc i true) (fun k => ?_) (Ev.step (f := fun k => script_quoted.l0 k (bs s) (acc ++ [(e.toNat : Int)]) ((i + 2 : Nat) : Int)) (fun k => ?_) (hn2 (acc ++ [(e.toNat : Int)]) (by omega) (by simp; omega)))
                · rw [script_quoted.j1, if_neg (by simp), if_pos h92, hz, p1, if_pos (by omega), if_pos (by omega), b1]
                  by_cases e34 : (e.toNat : Int) = 34
                  · rw [if_pos e34]
                  · rw [if_neg e34, show ((e.toNat : Int) == 92) = true from beq_iff_eq.2 ((u8_92 e).2 (hq.resolve_left (fun h => e34 ((u8_34 e).2 h))))]
                · rw [script_quoted.j2, if_pos rfl, hz, p1, p2, if_pos (by omega), if_pos (by omega), if_pos (by omega), b1]
              · rw [if_neg hq]
                have e34 : ¬ (e.toNat : Int) = 34 := fun h => hq (.inl ((u8_34 e).1 h))
                have e92 : ¬ (e.toNat : Int) = 92 := fun h => hq (.inr ((u8_92 e).1 h))
                refine Ev.step (f := fun k => script_quoted.j2 k (bs s) acc i false) (fun k => ?_) ?_
                · rw [script_quoted.j1, if_neg (by simp), if_pos h92, hz, p1, if_pos (by omega), if_pos (by omega), b1, if_neg e34, show ((e.toNat : Int) == 92) = false from beq_eq_false_iff_ne.2 e92]
                by_cases e120 : e = 120
                · rw [if_pos e120]
                  have hd2 := digit_is s (i + 2)
                  have hd3 := digit_is s (i + 3)
                  have j3f : ∀ k, script_quoted.j3 (k + 1) (bs s) acc i false = some (resQ acc none) := fun k => by rw [script_quoted.j3, if_neg (by simp)]; rfl
                  by_cases hl3 : i + 3 < s.length
                  · rw [dif_pos (by omega)] at hd2
                    rw [dif_pos hl3] at hd3
                    rw [List.drop_eq_getElem_cons (show i + 1 + 1 < s.length by omega), List.drop_eq_getElem_cons (show i + 1 + 1 + 1 < s.length by omega)]
                    dsimp only
                    generalize hx : s[i + 2] = x at hd2
                    generalize hy : s[i + 3] = y at hd3
                    have lx := hexV_lt x
                    have ly := hexV_lt y
                    by_cases hh : 0 ≤ hexV x ∧ 0 ≤ hexV y
                    · rw [if_pos hh, resQ_cons]
                      obtain ⟨h1, h2⟩ := hh
                      have hval : (((UInt8.ofNat (16 * hexV x + hexV y).toNat).toNat : Nat) : Int) = (wrap64 ((wrap64 (16 * hexV x)) + hexV y)) % 256 := by
                        rw [UInt8.toNat_ofNat']
                        unfold wrap64
                        omega
                      refine Ev.step (f := fun k => script_quoted.j3 k (bs s) acc i true) (fun k => ?_) (Ev.step (f := fun k => script_quoted.l0 k (bs s) (acc ++ [(((UInt8.ofNat (16 * hexV x + hexV y).toNat).toNat : Nat) : Int)]) ((i + 4 : Nat) : Int)) (fun k => ?_) (ih (d - 4) (by omega) (i + 4) _ (by omega) (by simp; omega)))
                      · rw [script_quoted.j2, if_neg (by simp), hz, p1, if_pos (by omega), if_pos (by omega), b1, if_pos ((u8_120 e).2 e120), p2, p3, hd2, Option.bind_some, if_pos (by omega), hd3, Option.bind_some, show decide (hexV y ≥ 0) = true from decide_eq_true h2]
                      · rw [script_quoted.j3, if_pos rfl, p2, p3, p4, hd2, Option.bind_some, hd3, Option.bind_some, if_pos (by omega), hval]
                    · rw [if_neg hh]
                      refine Ev.step (f := fun k => script_quoted.j3 k (bs s) acc i false) (fun k => ?_) (Ev.step (f := fun _ => some _) j3f (Ev.now _))
                      rw [script_quoted.j2, if_neg (by simp), hz, p1, if_pos (by omega), if_pos (by omega), b1, if_pos ((u8_120 e).2 e120), p2, p3, hd2, Option.bind_some]
                      by_cases h1 : hexV x ≥ 0
                      · rw [if_pos h1, hd3, Option.bind_some, show decide (hexV y ≥ 0) = false from decide_eq_false (by omega)]
                      · rw [if_neg h1]
                  · rw [dif_neg hl3] at hd3
                    have hnone : (match List.drop (i + 1 + 1) s with
                        | a :: b :: r3 => if 0 ≤ hexV a ∧ 0 ≤ hexV b then (quotedL r3).map fun p => (UInt8.ofNat (16 * hexV a + hexV b).toNat :: p.1, p.2) else none
                        | _ => none) = none := by
                      have hl : (List.drop (i + 1 + 1) s).length ≤ 1 := by rw [List.length_drop]; omega
                      generalize List.drop (i + 1 + 1) s = r1 at hl
                      match r1, hl with
                      | [], _ => rfl
                      | [_], _ => rfl
                    rw [hnone]
                    refine Ev.step (f := fun k => script_quoted.j3 k (bs s) acc i false) (fun k => ?_) (Ev.step (f := fun _ => some _) j3f (Ev.now _))
                    rw [script_quoted.j2, if_neg (by simp), hz, p1, if_pos (by omega), if_pos (by omega), b1, if_pos ((u8_120 e).2 e120), p2, p3, hd2, Option.bind_some, hd3, Option.bind_some, show decide ((-1 : Int) ≥ 0) = false from rfl]
                    split <;> first | rfl | (split <;> rfl)
                · rw [if_neg e120]
                  refine Ev.step (f := fun k => script_quoted.j3 k (bs s) acc i false) (fun k => ?_) (Ev.step (f := fun _ => some _) (fun k => by rw [script_quoted.j3, if_neg (by simp)]; rfl) (Ev.now _))
                  rw [script_quoted.j2, if_neg (by simp), hz, p1, if_pos (by omega), if_pos (by omega), b1, if_neg (fun h => e120 ((u8_120 e).1 h))]
            · rw [List.drop_of_length_le (show s.length ≤ i + 1 by omega)]
              dsimp only
              refine Ev.step (f := fun k => script_quoted.j2 k (bs s) acc i false) (fun k => ?_) (Ev.step (f := fun k => script_quoted.j3 k (bs s) acc i false) (fun k => ?_) (Ev.step (f := fun _ => some _) (fun k => by rw [script_quoted.j3, if_neg (by simp)]; rfl) (Ev.now _)))
              · rw [script_quoted.j1, if_neg (by simp), if_pos h92, hz, p1, if_neg (by omega)]
              · rw [script_quoted.j2, if_neg (by simp), hz, p1, if_neg (by omega)]
          · rw [if_pos c92, resQ_cons]
            refine Ev.step (f := fun k => script_quoted.l0 k (bs s) (acc ++ [(c.toNat : Int)]) ((i + 1 : Nat) : Int)) (fun k => ?_) (hn _ (by omega) (by simp; omega))
            rw [script_quoted.j1, if_neg (by simp), if_neg (fun h => c92 ((u8_92 c).1 h)), if_pos (by omega), p1]
    · obtain rfl : i = s.length := by omega
      rw [List.drop_length, quotedL]
      refine Ev.step (f := fun _ => some _) (fun k => ?_) (Ev.now _)
      rw [script_quoted.l0, hz, if_neg (by omega), if_pos (by omega)]
      rfl
theorem strOfNums_nums (t : List UInt8) : strOfNums (nums t) = bs t := by
  unfold strOfNums nums bs
  rw [List.map_map]
  congr 2
  rw [List.map_congr_left (g := id)]
  · simp
  · intro c _
    simp
def quotedR : Option (List UInt8 × List UInt8) → ByteArray × ByteArray × Bool
  | none => (⟨#[]⟩, ⟨#[]⟩, false)
  | some (t, r) => (bs t, bs r, true)
theorem quoted_is (l : List UInt8) (h : l.length < 4294967296) : Ev (fun k => script_quoted.f k (bs (34 :: l))) (quotedR (quotedL l)) := by
  have h1 := quoted_go (34 :: l) (by simp; omega) l.length 1 [] (by simp; omega) (by simp)
  have h2 : resQ [] (quotedL ((34 :: l).drop 1)) = quotedR (quotedL l) := by
    rw [List.drop_one, List.tail_cons]
    cases quotedL l with
    | none => rfl
    | some p => simp [resQ, quotedR, strOfNums_nums]
  rw [h2] at h1
  exact h1
theorem quotedL_le : ∀ n (l : List UInt8), l.length ≤ n → ∀ t r, quotedL l = some (t, r) → t.length + r.length < l.length := by
  intro n
  induction n with
  | zero =>
    intro l hl t r h
    obtain rfl : l = [] := List.length_eq_zero_iff.1 (by omega)
    simp [quotedL] at h
  | succ n ih =>
    intro l hl t r h
    match l, hl, h with
    | c :: l, hl, h =>
      unfold quotedL at h
      split at h
      · simp only [Option.some.injEq, Prod.mk.injEq] at h; obtain ⟨rfl, rfl⟩ := h; simp
      · split at h
        · simp at h
        · split at h
          · obtain ⟨p, hp, e⟩ := Option.map_eq_some_iff.1 h
            simp only [Prod.mk.injEq] at e; obtain ⟨rfl, rfl⟩ := e
            have := ih l (by simp at hl; omega) p.1 p.2 hp
            simp; omega
          · split at h
            · simp at h
            · next e r1 =>
              split at h
              · obtain ⟨p, hp, e2⟩ := Option.map_eq_some_iff.1 h
                simp only [Prod.mk.injEq] at e2; obtain ⟨rfl, rfl⟩ := e2
                have := ih r1 (by simp at hl; omega) p.1 p.2 hp
                simp; omega
              · split at h
                · split at h
                  · next a b r3 =>
                    split at h
                    · obtain ⟨p, hp, e2⟩ := Option.map_eq_some_iff.1 h
                      simp only [Prod.mk.injEq] at e2; obtain ⟨rfl, rfl⟩ := e2
                      have := ih r3 (by simp at hl; omega) p.1 p.2 hp
                      simp; omega
                    · simp at h
                  · simp at h
                · simp at h
def notSp (c : UInt8) : Bool := c != 32
def aftW (f : List UInt8 → List S88 × Bool) (w : S88) : List UInt8 → List S88 × Bool
  | [] => ([w], true)
  | c :: r' => if c = 32 then (if (f r').2 = true then (w :: (f r').1, true) else ([], false)) else ([], false)
def wordsL : Nat → List UInt8 → List S88 × Bool
  | 0, _ => ([], false)
  | n + 1, s =>
    if s.head? = some 34 then
      match quotedL s.tail with
      | none => ([], false)
      | some (t, r) => aftW (wordsL n) ⟨bs t, true⟩ r
    else if s.takeWhile notSp = [] then ([], false) else aftW (wordsL n) ⟨bs (s.takeWhile notSp), false⟩ (s.drop (s.takeWhile notSp).length)
theorem index_sp : ∀ s : List UInt8, Lib.indexByte (s ++ [32]) 32 = ((s.takeWhile notSp).length : Int)
  | [] => rfl
  | c :: s => by
    have ih := index_sp s
    rw [List.cons_append, Lib.indexByte]
    by_cases h : c = 32
    · subst h; rfl
    · rw [if_neg (by simpa using h), ih, if_neg (by simp), List.takeWhile_cons, if_pos (by simpa [notSp] using h), List.length_cons]
      omega
theorem head_pre (s : List UInt8) : strings_HasPrefix.f (bs s) (⟨#[34]⟩ : ByteArray) = some (decide (s.head? = some 34)) := by
  unfold strings_HasPrefix.f
  have := hasPre s [34]
  rw [show (⟨#[34]⟩ : ByteArray) = bs [34] from rfl, this, Option.bind_some]
  congr 1
  unfold Lib.hasPrefix
  cases s with
  | nil => rfl
  | cons c s =>
    simp only [List.isPrefixOf, List.head?_cons, Option.some.injEq, Bool.and_true]
    by_cases h : c = 34
    · subst h; rfl
    · rw [decide_eq_false h]
      exact beq_eq_false_iff_ne.2 (fun e => h e.symm)
def wres (acc : List S88) (q : List S88 × Bool) : List S88 × Bool := if q.2 = true then (acc ++ q.1, true) else ([], false)
theorem words_go : ∀ n (s : List UInt8) (acc : List S88), s.length < n → s.length < 4294967295 → acc.length + s.length ≤ 4294967296 → Ev (fun k => script_words.l0 k (bs s) acc) (wres acc (wordsL n s)) := by
  intro n
  induction n with
  | zero => intro s acc h; omega
  | succ n ih =>
    intro s acc hn hs ha
    have haft : ∀ (w : S88) (r : List UInt8), r.length ≤ s.length → (r.length < s.length ∨ r = []) → Ev (fun k => script_words.j1 k (bs r) acc w.f0 w.f1) (wres acc (aftW (wordsL n) w r)) := by
      intro w r hr hr2
      match r, hr, hr2 with
      | [], _, _ =>
        refine Ev.step (f := fun _ => some _) (fun k => ?_) (Ev.now _)
        rw [script_words.j1, if_pos (by omega), Option.bind_some, zbo, if_pos rfl]
        rfl
      | c :: r', hr, hr2 =>
        have hl : r'.length < s.length := by simp at hr; omega
        have b0 : bt (bs (c :: r')) 0 = (c.toNat : Int) := bt_bs (c :: r') 0 (by simp)
        by_cases hc : c = 32
        · rw [aftW, if_pos hc]
          have hi := ih r' (acc ++ [w]) (by omega) (by omega) (by simp; omega)
          have e : wres (acc ++ [w]) (wordsL n r') = wres acc (if (wordsL n r').2 = true then (w :: (wordsL n r').1, true) else ([], false)) := by
            unfold wres
            by_cases hq : (wordsL n r').2 = true
            · rw [if_pos hq, if_pos hq]; simp
            · rw [if_neg hq, if_neg hq]; simp
          rw [← e]
          refine Ev.step (f := fun k => script_words.l0 k (bs r') (acc ++ [w])) (fun k => ?_) hi
          rw [script_words.j1, if_pos (by omega), Option.bind_some, zbo, if_neg (by simp), zao, if_pos (by simp), b0, if_pos (by subst hc; rfl), if_pos (by simp; omega), bs_extract]
          congr 1
          simp
        · rw [aftW, if_neg hc]
          refine Ev.step (f := fun _ => some _) (fun k => ?_) (Ev.now _)
          rw [script_words.j1, if_pos (by omega), Option.bind_some, zbo, if_neg (by simp), zao, if_pos (by simp), b0, if_neg (fun e => hc (UInt8.toNat_inj.1 (by simpa using (by omega : c.toNat = 32))))]
          rfl
    rw [wordsL]
    by_cases hq : s.head? = some 34
    · rw [if_pos hq]
      obtain ⟨l, rfl⟩ : ∃ l, s = 34 :: l := by
        cases s with
        | nil => simp at hq
        | cons c l => simp at hq; exact ⟨l, by rw [hq]⟩
      rw [List.tail_cons]
      have h1 := quoted_is l (by simp at hs; omega)
      refine Ev.step (f := fun k => (script_quoted.f k (bs (34 :: l))).bind fun b => if b.2.2 = true then script_words.j1 k b.2.1 acc b.1 true else some ([], false)) (fun k => ?_) (Ev.bind h1 ?_)
      · rw [script_words.l0, head_pre, Option.bind_some, hq, show decide (some (34 : UInt8) = some 34) = true from rfl, if_pos rfl]
      · cases hl : quotedL l with
        | none => exact Ev.now _
        | some p =>
          obtain ⟨t, r⟩ := p
          have hle := quotedL_le _ l (Nat.le_refl _) t r hl
          exact Ev.congr (fun k => by rw [quotedR, if_pos rfl]) (haft ⟨bs t, true⟩ r (by simp; omega) (.inl (by simp; omega)))
    · rw [if_neg hq]
      have hi := index_sp s
      have hle : (s.takeWhile notSp).length ≤ s.length := (List.takeWhile_prefix _).length_le
      by_cases he : s.takeWhile notSp = []
      · rw [if_pos he]
        refine Ev.step (f := fun _ => some _) (fun k => ?_) (Ev.now _)
        rw [script_words.l0, head_pre, Option.bind_some, decide_eq_false hq, if_neg (by simp), zao, if_pos (by omega), show (⟨#[32]⟩ : ByteArray) = bs [32] from rfl, zbb, strings_IndexByte.f, Option.bind_some, zbc, show (32 : Int).toNat.toUInt8 = 32 from rfl, hi, if_pos (by omega), if_pos (by omega), bs_extract, zbo, if_pos (by rw [he]; rfl)]
        rfl
      · rw [if_neg he]
        have hpos : 0 < (s.takeWhile notSp).length := List.length_pos_iff.2 he
        refine Ev.step (f := fun k => script_words.j1 k (bs (s.drop (s.takeWhile notSp).length)) acc (bs (s.takeWhile notSp)) false) (fun k => ?_) (haft ⟨bs (s.takeWhile notSp), false⟩ _ (by simp) (.inl (by simp; omega)))
        have e1 : s.take (s.takeWhile notSp).length = s.takeWhile notSp := (List.prefix_iff_eq_take.1 (List.takeWhile_prefix _)).symm
        rw [script_words.l0, head_pre, Option.bind_some, decide_eq_false hq, if_neg (by simp), zao, if_pos (by omega), show (⟨#[32]⟩ : ByteArray) = bs [32] from rfl, zbb, strings_IndexByte.f, Option.bind_some, zbc, show (32 : Int).toNat.toUInt8 = 32 from rfl, hi, if_pos (by omega), if_pos (by omega), bs_extract, zbo, Int.toNat_natCast, Nat.sub_zero, List.drop_zero, e1, if_neg he, bs_extract, take_drop_len]
theorem wordsL_sound : ∀ n (s : List UInt8), (∃ l, wordsL n s = (l, true) ∧ l ≠ [] ∧ l.length ≤ s.length ∧ ∀ x ∈ l, x.f0.size ≤ s.length) ∨ wordsL n s = ([], false) := by
  intro n
  induction n with
  | zero => intro s; exact .inr rfl
  | succ n ih =>
    intro s
    have haft : ∀ (w : S88) (r : List UInt8), r.length < s.length → w.f0.size ≤ s.length → (∃ l, aftW (wordsL n) w r = (l, true) ∧ l ≠ [] ∧ l.length ≤ s.length ∧ ∀ x ∈ l, x.f0.size ≤ s.length) ∨ aftW (wordsL n) w r = ([], false) := by
      intro w r hr hw
      match r, hr with
      | [], hr => exact .inl ⟨[w], rfl, by simp, by simp at hr ⊢; omega, fun x hx => by simp at hx; subst hx; exact hw⟩
      | c :: r', hr =>
        rw [aftW]
        by_cases hc : c = 32
        · rw [if_pos hc]
          rcases ih r' with ⟨l, e, hl, h1, h2⟩ | e
          · rw [e, if_pos rfl]
            simp only [List.length_cons] at hr
            exact .inl ⟨w :: l, rfl, by simp, by simp; omega, fun x hx => by
              rcases List.mem_cons.1 hx with rfl | hx
              · exact hw
              · have := h2 x hx; omega⟩
          · rw [e, if_neg (by simp)]; exact .inr rfl
        · rw [if_neg hc]; exact .inr rfl
    rw [wordsL]
    by_cases hq : s.head? = some 34
    · rw [if_pos hq]
      obtain ⟨l, rfl⟩ : ∃ l, s = 34 :: l := by
        cases s with
        | nil => simp at hq
        | cons c l => simp at hq; exact ⟨l, by rw [hq]⟩
      rw [List.tail_cons]
      cases hl : quotedL l with
      | none => exact .inr rfl
      | some p =>
        obtain ⟨t, r⟩ := p
        have hle := quotedL_le _ l (Nat.le_refl _) t r hl
        exact haft ⟨bs t, true⟩ r (by simp; omega) (by rw [zao]; simp; omega)
    · rw [if_neg hq]
      have hle : (s.takeWhile notSp).length ≤ s.length := (List.takeWhile_prefix _).length_le
      by_cases he : s.takeWhile notSp = []
      · rw [if_pos he]; exact .inr rfl
      · rw [if_neg he]
        have hpos : 0 < (s.takeWhile notSp).length := List.length_pos_iff.2 he
        exact haft ⟨bs (s.takeWhile notSp), false⟩ _ (by rw [List.length_drop]; omega) (by rw [zao]; exact hle)
def wordsV (s : List UInt8) : List S88 × Bool := wordsL (s.length + 1) s
theorem words_is (s : List UInt8) (h : s.length < 4294967295) : ∃ k, script_words.f k (bs s) = some (wordsV s) := by
  have h1 := words_go (s.length + 1) s [] (by omega) h (by simp; omega)
  have e : wres [] (wordsL (s.length + 1) s) = wordsV s := by
    unfold wres wordsV
    by_cases hq : (wordsL (s.length + 1) s).2 = true
    · rw [if_pos hq, List.nil_append, ← hq]
    · rw [if_neg hq]
      rcases wordsL_sound (s.length + 1) s with ⟨l, e, _⟩ | e
      · rw [e] at hq; exact absurd rfl hq
      · exact e.symm
  rw [e] at h1
  exact Ev.rounds h1
theorem wordsV_WB (s : List UInt8) (h : s.length < 4294967295) : WB (wordsV s).1 := by
  rcases wordsL_sound (s.length + 1) s with ⟨l, e, _, h1, h2⟩ | e
  · unfold wordsV; rw [e]; exact ⟨by dsimp only; omega, fun x hx => by have := h2 x hx; omega⟩
  · unfold wordsV; rw [e]; exact WB.nil
theorem wordsV_ne (s : List UInt8) (h : (wordsV s).2 = true) : (wordsV s).1 ≠ [] := by
  rcases wordsL_sound (s.length + 1) s with ⟨l, e, h0, h1, h2⟩ | e
  · unfold wordsV; rw [e]; exact h0
  · unfold wordsV at h; rw [e] at h; exact absurd h (by simp)
end Go.Proofs.YtdmlgligljagoaaDoor

set_option linter.unusedVariables false
set_option linter.unusedSimpArgs false
namespace Go.Proofs.YtdmlgligljagoaaDoor
open Go.RowKit Go.Proofs.YtdmlgligljagoaaDoorW.PrintWords PS

/-- what a line says -/
def lineV (s : List UInt8) : S36 × Bool := cmdV (wordsV s).1 (wordsV s).2
namespace PS
def script_command.f (a0 : ByteArray) : Option (Int × Int × Int × Int × ByteArray × ByteArray × ByteArray × (List (S38)) × Int × Int × List Int × ByteArray × Bool) :=
  if a0.size < 4294967295 then
    let c := lineV a0.data.toList
    some (c.1.f0, c.1.f1, c.1.f2, c.1.f3.f0, c.1.f3.f1, c.1.f3.f2, c.1.f3.f3, c.1.f3.f4, c.1.f3.f5, c.1.f3.f6, c.1.f3.f7, c.1.f4, c.2)
  else none
theorem script_command.calls (a0 : ByteArray) (r1 : Int) (r2 : Int) (r3 : Int) (r4 : Int) (r5 : ByteArray) (r6 : ByteArray) (r7 : ByteArray) (r8 : List (S38)) (r9 : Int) (r10 : Int) (r11 : List Int) (r12 : ByteArray) (r13 : Bool) (w : World) (hT : Tab w) (h : script_command.f a0 = some (r1, r2, r3, r4, r5, r6, r7, r8, r9, r10, r11, r12, r13)) :
    Calls Tryd.prog 32 #[.string a0] w fun e w' => ∃ v7_ v10_ : Value, e = .returned (.tuple #[.agg #[.int .i64 r1, .int .i64 r2, .int .i64 r3, .int .i64 r4, .string r5, .string r6, .string r7, v7_, .int .i64 r9, .int .i64 r10, v10_, .string r12], .bool r13]) ∧ Kd.R k38 38 w' w.heap.size (fun _ => True) v7_ r8 ∧ Kd.R (Kd.int .i64) 3 w' w.heap.size (fun _ => True) v10_ r11 ∧ Below w.heap.size w w' := by
  unfold script_command.f at h
  split at h
  · next hs =>
    simp only [Option.some.injEq, Prod.mk.injEq] at h
    obtain ⟨rfl, rfl, rfl, rfl, rfl, rfl, rfl, rfl, rfl, rfl, rfl, rfl, rfl⟩ := h
    have hl : a0.data.toList.length < 4294967295 := by rw [← Lib.size_eq]; exact hs
    obtain ⟨k, hk⟩ := words_is a0.data.toList hl
    rw [bs_self] at hk
    exact command_any a0 k (wordsV a0.data.toList).1 (wordsV a0.data.toList).2 w hT hk (wordsV_WB _ hl) (wordsV_ne _) (lineV a0.data.toList).1 (lineV a0.data.toList).2 rfl
  · cases h
end PS
end Go.Proofs.YtdmlgligljagoaaDoor

namespace Go.Proofs.YtdmlgligljagoaaDoor.PS
open Go.RowKit Go.Proofs.YtdmlgligljagoaaDoorW.PrintWords Go.Proofs.YtdmlgligljagoaaDoorW.PrintLast Go.Proofs.YtdmlgligljagoaaDoorW.PrintMore
attribute [local go_sem] zbg zbh max_two min_two zbe zbf zbi zbj   -- for this text's walks alone
set_option linter.unusedVariables false
set_option linter.unusedSimpArgs false

/-! ### script_long: function 26 -/
mutual
def script_long.j0 : Nat → List ByteArray → Option (Bool)
 | 0, _ => none
 | k + 1, x3 => script_long.l0 k x3 x3 (x3.length : Int) 0
def script_long.l0 : Nat → List ByteArray → List ByteArray → Int → Int → Option (Bool)
 | 0, _, _, _, _ => none
 | k + 1, x3, x23, x24, x25 => if x25 < x24 then (if 0 ≤ x25 then (if x25 < (x23.length : Int) then (if ((rdOf ByteArray.empty x23 x25).size : Int) > 8192 then (some true) else (script_long.l0 k x3 x23 x24 (wrap64 (x25 + 1)))) else (none)) else (none)) else (some (decide ((x3.length : Int) > 1024)))
end
def script_long.f (k : Nat) (a0 : ByteArray) : Option (Bool) := if (a0.size : Int) > 65536 then (some true) else ((strings_Split.f a0 (⟨#[10]⟩ : ByteArray)).bind fun t132 => (if 0 ≤ (wrap64 ((t132.length : Int) - 1)) then (if (wrap64 ((t132.length : Int) - 1)) < (t132.length : Int) then (if (rdOf ByteArray.empty t132 (wrap64 ((t132.length : Int) - 1))).toList = ([] : List UInt8) then (if (wrap64 ((t132.length : Int) - 1)) ≤ (t132.length : Int) then (script_long.j0 k (t132.take ((wrap64 ((t132.length : Int) - 1)) : Int).toNat)) else (none)) else (script_long.j0 k t132)) else (none)) else (none)))
set_option maxHeartbeats 8000000 in
set_option maxRecDepth 100000 in
theorem script_long.calls (k : Nat) (a0 : ByteArray) (r : Bool) (w : World) (hT : Tab w) (h : script_long.f k a0 = some r) :
  Calls Tryd.prog 26 #[.string a0] w fun e w' => e = .returned (.bool r) ∧ Below w.heap.size w w' := by
 have HB := Aside0.mk (Below.refl w.heap.size w)
 have HT := Aside0.mk hT
 clear hT
 have H : (if (a0.size : Int) > 65536 then (some true) else ((strings_Split.f a0 (⟨#[10]⟩ : ByteArray)).bind fun t132 => (if 0 ≤ (wrap64 ((t132.length : Int) - 1)) then (if (wrap64 ((t132.length : Int) - 1)) < (t132.length : Int) then (if (rdOf ByteArray.empty t132 (wrap64 ((t132.length : Int) - 1))).toList = ([] : List UInt8) then (if (wrap64 ((t132.length : Int) - 1)) ≤ (t132.length : Int) then (script_long.j0 k (t132.take ((wrap64 ((t132.length : Int) - 1)) : Int).toNat)) else (none)) else (script_long.j0 k t132)) else (none)) else (none)))) = some r := h
 clear h
 by_cases c2 : (a0.size : Int) > 65536
 ·
  rw [if_pos c2] at H
  have c2b0 : decide (65536 < (a0.size : Int)) = true := decide_eq_true c2
  have c2b1 : decide (65536 < a0.size) = true := decide_eq_true (by omega)
  clear c2
  obtain rfl := Option.some.inj H
  go_enter Tryd.func26, Tryd.ntmps26
  go_wp2
  go_ret
  exact ⟨by first | rfl | (simp [zam, zan] <;> rfl) | (simp [*, zam, zan] <;> rfl), by repeat with_reducible first | exact HB.out | apply zae | apply zac | apply zad⟩
 rw [if_neg c2] at H
 have c2b0 : decide (65536 < (a0.size : Int)) = false := decide_eq_false c2
 have c2b1 : decide (65536 < a0.size) = false := decide_eq_false (by omega)
 clear c2
 replace H := Option.bind_eq_some_iff.mp H
 obtain ⟨t132, A30, H⟩ := H
 replace H : (if 0 ≤ (wrap64 ((t132.length : Int) - 1)) then (if (wrap64 ((t132.length : Int) - 1)) < (t132.length : Int) then (if (rdOf ByteArray.empty t132 (wrap64 ((t132.length : Int) - 1))).toList = ([] : List UInt8) then (if (wrap64 ((t132.length : Int) - 1)) ≤ (t132.length : Int) then (script_long.j0 k (t132.take ((wrap64 ((t132.length : Int) - 1)) : Int).toNat)) else (none)) else (script_long.j0 k t132)) else (none)) else (none)) = some r := H
 have A3 := Aside0.mk A30
 clear A30
 obtain ⟨ji4, hji4⟩ : ∃ j_ : Int, (wrap64 ((t132.length : Int) - 1)) = j_ := ⟨_, rfl⟩
 replace H : (if 0 ≤ (ji4) then (if (ji4) < (t132.length : Int) then (if (rdOf ByteArray.empty t132 (ji4)).toList = ([] : List UInt8) then (if (ji4) ≤ (t132.length : Int) then (script_long.j0 k (t132.take ((ji4) : Int).toNat)) else (none)) else (script_long.j0 k t132)) else (none)) else (none)) = some r := by first | (rw [hji4] at H; exact H) | (simp only [hji4] at H ⊢; exact H)
 (try rw [hji4] at A3)
 have hji4w : (IntKind.i64.wrap ((t132.length : Int) - 1)) = ji4 := (i64_w _).trans hji4
 by_cases c5 : 0 ≤ (ji4)
 rotate_left
 ·
  rw [if_neg c5] at H
  exact absurd H (by simp)
 rw [if_pos c5] at H
 have c5b0 : decide (0 ≤ (ji4)) = true := decide_eq_true c5
 clear c5
 by_cases c6 : (ji4) < (t132.length : Int)
 rotate_left
 ·
  rw [if_neg c6] at H
  exact absurd H (by simp)
 rw [if_pos c6] at H
 have c6b0 : decide ((ji4) < (t132.length : Int)) = true := decide_eq_true c6
 clear c6
 have HC7 := Aside0.mk H
 clear H
 go_enter Tryd.func26, Tryd.ntmps26
 go_upto_if 17 with (first | ((with_reducible refine zay (f := 31) rfl ?_); refine goesL_ (some 10) rfl rfl Tryd.func31 (by kernel_rfl) rfl #[.string a0, .string (⟨#[10]⟩ : ByteArray)] rfl (by (try simp only [List.map_toArray, List.map_cons, List.map_nil]); first | done | rfl | (simp only [List.length_drop, List.length_take]; rfl)) ?_; (with_reducible refine (strings_Split.calls a0 (⟨#[10]⟩ : ByteArray) t132 _ ?side1 A3.out).mono ?_); (case side1 => exact zba HT.out (by repeat with_reducible first | exact HB.out | apply zae | apply zac | apply zad)); rintro e w8 ⟨v133, rfl, ho0, hb⟩; refine ⟨_, rfl, ?_⟩; have n0_ := Aside0.mk (Kd.R_lower ho0 (zal (by repeat with_reducible first | exact HB.out | apply zae | apply zac | apply zad))); have n1_ := Aside0.mk (zap (by repeat with_reducible first | exact HB.out | apply zae | apply zac | apply zad) hb); clear HB; have HO134 := n0_; have HB := n1_; clear n0_ n1_; (try clear hb); (try clear hb2); (try clear hk); (try clear hi); (try clear ho0); obtain ⟨Ao9, co9, eo9⟩ := Kd.R_slice HO134.out; subst eo9; have p135 : 0 ≤ ((ji4) : Int) := of_decide_eq_true (by first | (with_reducible assumption) | assumption); have q135 : (ji4) < (t132.length : Int) := of_decide_eq_true (by first | (with_reducible assumption) | assumption); obtain ⟨ad135, e135, hx135_0⟩ := Kd.at_string (Kd.R_reads' HO134.out).2.2 (ji4) p135 q135; cases e135; replace p135 := eq_true p135; replace q135 := eq_true q135))
 (try simp only [Act.put, List.setIfInBounds_toArray, List.set_cons_zero, List.set_cons_succ])
 go_cut [3] (fun v3 wc => ∃ (kq : Nat) (x3_6 : List ByteArray), Aside0 (script_long.j0 kq x3_6 = some r) ∧ Aside0 (kq ≤ k) ∧ Aside0 (Kd.R Kd.string 9 wc w.heap.size (fun _ => True) v3 x3_6) ∧ Aside0 (Below w.heap.size w wc))
 case first =>
  have H := HC7.out
  clear HC7
  by_cases c10 : (rdOf ByteArray.empty t132 (ji4)).toList = ([] : List UInt8)
  rotate_left
  ·
   rw [if_neg c10] at H
   have c10b0 : ((rdOf ByteArray.empty t132 (ji4)).toList == ([] : List UInt8)) = false := beq_eq_false_iff_ne.mpr c10
   have c10b1 : ((rdOf ByteArray.empty t132 (ji4)).toList != ([] : List UInt8)) = true := bne_iff_ne.mpr c10
   (try (have c10b2 : (rdOf ByteArray.empty t132 (ji4)).toList.isEmpty = false := by simpa using c10))
   (first | rw [c10b0] | (simp only [i64_w, i32_w]; rw [c10b0]) | rw [c10b2] | skip)
   have H' := Aside0.mk H
   clear H
   go_wp2
   go_meet
   case rel => exact ⟨_, (t132), H', ⟨by first | omega | exact Nat.le_refl _⟩, ⟨by (with_reducible repeat (first | apply Kd.R_alloc | apply Kd.R_drewN | apply Kd.R_drew)); exact HO134.out⟩, ⟨by repeat with_reducible first | exact HB.out | apply zae | apply zac | apply zad⟩⟩
  rw [if_pos c10] at H
  have c10b0 : ((rdOf ByteArray.empty t132 (ji4)).toList == ([] : List UInt8)) = true := beq_iff_eq.mpr c10
  have c10b1 : ((rdOf ByteArray.empty t132 (ji4)).toList != ([] : List UInt8)) = false := bne_eq_false_iff_eq.mpr c10
  (try (have c10b2 : (rdOf ByteArray.empty t132 (ji4)).toList.isEmpty = true := by simpa using c10))
  clear c10
  (first | rw [c10b0] | (simp only [i64_w, i32_w]; rw [c10b0]) | rw [c10b2] | skip)
  by_cases c11 : (ji4) ≤ (t132.length : Int)
  rotate_left
  ·
   rw [if_neg c11] at H
   exact absurd H (by simp)
  rw [if_pos c11] at H
  have c11b0 := eq_true c11
  have c11b1 : decide ((ji4) ≤ (t132.length : Int)) = true := decide_eq_true c11
  clear c11
  obtain ⟨y136, hy136⟩ : ∃ y_ : List ByteArray, y_ = (t132.take ((ji4) : Int).toNat) := ⟨_, rfl⟩
  replace H : (script_long.j0 k y136) = some r := by first | (rw [hy136]; with_reducible exact H) | (have H2_ := (Option.bind_some _ _).symm.trans H; rw [hy136]; with_reducible exact H2_) | (have H2_ := (Option.bind_some _ _).symm.trans H; with_reducible exact H2_) | with_reducible exact H | (rw [hy136]; exact H) | exact H
  have Ny136 := Aside0.mk hy136
  clear hy136
  have H' := Aside0.mk H
  clear H
  have q12 : ((ji4) : Int) ≤ ((t132.length : Int) : Int) := of_decide_eq_true (by first | (with_reducible assumption) | assumption)
  obtain ⟨i012, hi012, _, hsz12, _⟩ := info_parts info9
  have hcut12 := cut_to (P := Tryd.prog) 70 9 .i64 Tryd.underlying70 hi012 (some ad135) t132.length co9 (ji4) (of_decide_eq_true (by first | (with_reducible assumption) | assumption)) q12 (Kd.R_reads' HO134.out).2.1
  have hr12 := Kd.R_take (m := ((ji4) : Int).toNat) HO134.out (by omega)
  have hy12 : y136.length = ((ji4) : Int).toNat := (by rw [Ny136.out, List.length_take]; omega)
  rw [← Ny136.out] at hr12
  rw [← hy12] at hr12 hcut12
  clear hy12 hi012 hsz12 HO134
  have HO138 := Aside0.mk hr12
  clear hr12
  replace q12 := eq_true q12
  go_wp2
  go_meet
  case rel => exact ⟨_, (y136), H', ⟨by first | omega | exact Nat.le_refl _⟩, ⟨by (with_reducible repeat (first | apply Kd.R_alloc | apply Kd.R_drewN | apply Kd.R_drew)); exact HO138.out⟩, ⟨by repeat with_reducible first | exact HB.out | apply zae | apply zac | apply zad⟩⟩
 case rest =>
  clear HC7
  try clear c1
  try clear p1
  try clear q1
  try clear hx1
  try clear c2
  try clear c2b0
  try clear c2b1
  try clear p2
  try clear c3
  try clear c5
  try clear c5b0
  try clear c6
  try clear c6b0
  try clear p6
  try clear c10
  try clear c10b0
  try clear c10b1
  try clear c10b2
  try clear c11
  try clear c11b0
  try clear c11b1
  try clear q12
  try clear hx135_0
  try clear p135
  try clear q12
  try clear q135
  obtain ⟨kq, x3_6, HA, HJ6, HO_3, HB⟩ := hcut
  cases kq with
  | zero => exact absurd HA.out (by simp [script_long.j0])
  | succ kj6 =>
   have H := HA.out
   clear HA
   simp only [script_long.j0] at H
   have H' := Aside0.mk H
   clear H
   obtain ⟨Ao13, co13, eo13⟩ := Kd.R_slice HO_3.out
   subst eo13
   go_wp2
   go_loopg [25] kj6 (fun kq v25 w' => ∃ (x25_2 : Int), v25 = .int .i64 x25_2 ∧ Aside0 (script_long.l0 kq x3_6 x3_6 (x3_6.length : Int) x25_2 = some r) ∧ Aside0 (kq ≤ kj6) ∧ Aside0 (Kd.R Kd.string 9 w' w.heap.size (fun _ => True) (.slice Ao13 x3_6.length co13) x3_6) ∧ Aside0 (Kd.R Kd.string 9 w' w.heap.size (fun _ => True) (.slice Ao13 x3_6.length co13) x3_6) ∧ Aside0 (Below w.heap.size w w'))
   case atStart => exact ⟨(0), (by first | rfl | (simp; done) | (simp [*]; done)), H', ⟨Nat.le_refl _⟩, ⟨by (with_reducible repeat (first | apply Kd.R_alloc | apply Kd.R_drewN | apply Kd.R_drew)); exact HO_3.out⟩, ⟨by (with_reducible repeat (first | apply Kd.R_alloc | apply Kd.R_drewN | apply Kd.R_drew)); exact HO_3.out⟩, ⟨by repeat with_reducible first | exact HB.out | apply zae | apply zac | apply zad⟩⟩
   case round =>
    clear H'
    try clear c1
    try clear p1
    try clear q1
    try clear hx1
    try clear c2
    try clear c2b0
    try clear c2b1
    try clear p2
    try clear c3
    try clear c5
    try clear c5b0
    try clear c6
    try clear c6b0
    try clear p6
    try clear c10
    try clear c10b0
    try clear c10b1
    try clear c10b2
    try clear c11
    try clear c11b0
    try clear c11b1
    try clear q12
    try clear p13
    try clear q13
    try clear hx13
    try clear hx135_0
    try clear p1
    try clear p135
    try clear p2
    try clear p6
    try clear q1
    try clear q12
    try clear q135
    obtain ⟨x25_2, rfl, HA, HK2, HO_3, HO_23, HB⟩ := hrel
    cases gk with
    | zero => exact absurd HA.out (by simp [script_long.l0])
    | succ k2 =>
     have H := HA.out
     clear HA
     simp only [script_long.l0] at H
     by_cases c14 : x25_2 < (x3_6.length : Int)
     rotate_left
     ·
      rw [if_neg c14] at H
      have c14b0 : decide (x25_2 < (x3_6.length : Int)) = false := decide_eq_false c14
      clear c14
      obtain rfl := Option.some.inj H
      go_wp2
      go_ret
      exact ⟨by first | rfl | (simp [zam, zan] <;> rfl) | (simp only [← hji4]; first | rfl | (simp [zam, zan] <;> rfl)) | (simp [*, zam, zan] <;> rfl), by repeat with_reducible first | exact HB.out | apply zae | apply zac | apply zad⟩
     rw [if_pos c14] at H
     have c14b0 : decide (x25_2 < (x3_6.length : Int)) = true := decide_eq_true c14
     clear c14
     by_cases c15 : 0 ≤ x25_2
     rotate_left
     ·
      rw [if_neg c15] at H
      exact absurd H (by simp)
     rw [if_pos c15] at H
     have c15b0 : decide (0 ≤ x25_2) = true := decide_eq_true c15
     clear c15
     by_cases c16 : x25_2 < (x3_6.length : Int)
     rotate_left
     ·
      rw [if_neg c16] at H
      exact absurd H (by simp)
     rw [if_pos c16] at H
     have c16b0 : decide (x25_2 < (x3_6.length : Int)) = true := decide_eq_true c16
     clear c16
     by_cases c17 : ((rdOf ByteArray.empty x3_6 x25_2).size : Int) > 8192
     ·
      rw [if_pos c17] at H
      have c17b0 : decide (8192 < ((rdOf ByteArray.empty x3_6 x25_2).size : Int)) = true := decide_eq_true c17
      have c17b1 : decide (8192 < (rdOf ByteArray.empty x3_6 x25_2).size) = true := decide_eq_true (by omega)
      clear c17
      obtain rfl := Option.some.inj H
      have p139 : 0 ≤ (x25_2 : Int) := of_decide_eq_true (by first | (with_reducible assumption) | assumption)
      have q139 : x25_2 < (x3_6.length : Int) := of_decide_eq_true (by first | (with_reducible assumption) | assumption)
      obtain ⟨ad139, e139, hx139_0⟩ := Kd.at_string (Kd.R_reads' HO_23.out).2.2 x25_2 p139 q139
      cases e139
      replace p139 := eq_true p139
      replace q139 := eq_true q139
      go_wp2
      go_ret
      exact ⟨by first | rfl | (simp [zam, zan] <;> rfl) | (simp only [← hji4]; first | rfl | (simp [zam, zan] <;> rfl)) | (simp [*, zam, zan] <;> rfl), by repeat with_reducible first | exact HB.out | apply zae | apply zac | apply zad⟩
     rw [if_neg c17] at H
     have c17b0 : decide (8192 < ((rdOf ByteArray.empty x3_6 x25_2).size : Int)) = false := decide_eq_false c17
     have c17b1 : decide (8192 < (rdOf ByteArray.empty x3_6 x25_2).size) = false := decide_eq_false (by omega)
     clear c17
     have H' := Aside0.mk H
     clear H
     have p139 : 0 ≤ (x25_2 : Int) := of_decide_eq_true (by first | (with_reducible assumption) | assumption)
     have q139 : x25_2 < (x3_6.length : Int) := of_decide_eq_true (by first | (with_reducible assumption) | assumption)
     obtain ⟨ad139, e139, hx139_0⟩ := Kd.at_string (Kd.R_reads' HO_23.out).2.2 x25_2 p139 q139
     cases e139
     replace p139 := eq_true p139
     replace q139 := eq_true q139
     go_wp2
     go_roundg k2
     case measure => have := HJ6.out; have := HK2.out; omega
     case rel => exact ⟨(wrap64 (x25_2 + 1)), (by first | rfl | (simp; done) | (simp [*]; done)), H', ⟨by have := HJ6.out; have := HK2.out; omega⟩, ⟨by (with_reducible repeat (first | apply Kd.R_alloc | apply Kd.R_drewN | apply Kd.R_drew)); exact HO_3.out⟩, ⟨by (with_reducible repeat (first | apply Kd.R_alloc | apply Kd.R_drewN | apply Kd.R_drew)); exact HO_23.out⟩, ⟨by repeat with_reducible first | exact HB.out | apply zae | apply zac | apply zad⟩⟩

end Go.Proofs.YtdmlgligljagoaaDoor.PS

namespace Go.Proofs.YtdmlgligljagoaaDoor.PS
open Go.RowKit Go.Proofs.YtdmlgligljagoaaDoorW.PrintWords Go.Proofs.YtdmlgligljagoaaDoorW.PrintLast Go.Proofs.YtdmlgligljagoaaDoorW.PrintMore
attribute [local go_sem] zbg zbh max_two min_two zbe zbf zbi zbj   -- for this text's walks alone
set_option linter.unusedVariables false
set_option linter.unusedSimpArgs false

/-! ### script_Parse: function 18 -/
mutual
def script_Parse.l0 : Nat → List (S36) → List ByteArray → Int → Int → Option ((List (S36)) × Int)
 | 0, _, _, _, _ => none
 | k + 1, x4, x12, x13, x14 => if x14 < x13 then (if 0 ≤ x14 then (if x14 < (x12.length : Int) then (if (rdOf ByteArray.empty x12 x14).toList = ([] : List UInt8) then (script_Parse.j1 k x4 (rdOf ByteArray.empty x12 x14) x12 x13 x14 true) else (if 0 < ((rdOf ByteArray.empty x12 x14).size : Int) then (script_Parse.j1 k x4 (rdOf ByteArray.empty x12 x14) x12 x13 x14 ((bt (rdOf ByteArray.empty x12 x14) 0) == 35)) else (none))) else (none)) else (none)) else (some (x4, 0))
def script_Parse.j1 : Nat → List (S36) → ByteArray → List ByteArray → Int → Int → Bool → Option ((List (S36)) × Int)
 | 0, _, _, _, _, _, _ => none
 | k + 1, x4, x6, x12, x13, x14, x24 => if x24 = true then (script_Parse.l0 k x4 x12 x13 (wrap64 (x14 + 1))) else ((script_command.f x6).bind fun bt188 => (if bt188.2.2.2.2.2.2.2.2.2.2.2.2 = true then (if x4.length < 879609302220 then (script_Parse.l0 k (x4 ++ [(⟨bt188.1, bt188.2.1, bt188.2.2.1, (⟨bt188.2.2.2.1, bt188.2.2.2.2.1, bt188.2.2.2.2.2.1, bt188.2.2.2.2.2.2.1, bt188.2.2.2.2.2.2.2.1, bt188.2.2.2.2.2.2.2.2.1, bt188.2.2.2.2.2.2.2.2.2.1, bt188.2.2.2.2.2.2.2.2.2.2.1⟩ : S34), bt188.2.2.2.2.2.2.2.2.2.2.2.1⟩ : S36)]) x12 x13 (wrap64 (x14 + 1))) else (none)) else (some (([] : List (S36)), 110))))
end
def script_Parse.f (k : Nat) (a0 : ByteArray) : Option ((List (S36)) × Int) := (script_long.f k a0).bind fun t183 => (if t183 = true then (some (([] : List (S36)), 3)) else ((strings_Split.f a0 (⟨#[10]⟩ : ByteArray)).bind fun t184 => (script_Parse.l0 k ([] : List (S36)) t184 (t184.length : Int) 0)))
set_option maxHeartbeats 8000000 in
set_option maxRecDepth 100000 in
theorem script_Parse.calls (k : Nat) (a0 : ByteArray) (r1 : List (S36)) (r2 : Int) (w : World) (hT : Tab w) (h : script_Parse.f k a0 = some (r1, r2)) :
  Calls Tryd.prog 18 #[.string a0] w fun e w' => ∃ v0_ : Value, e = .returned (.tuple #[v0_, .int .i64 r2]) ∧ Kd.S k36 36 w' w.heap.size (fun _ => True) v0_ r1 ∧ Below w.heap.size w w' := by
 have hu36 := Tryd.underlying36
 have HB := Aside0.mk (Below.refl w.heap.size w)
 have HT := Aside0.mk hT
 clear hT
 have H : ((script_long.f k a0).bind fun t183 => (if t183 = true then (some (([] : List (S36)), 3)) else ((strings_Split.f a0 (⟨#[10]⟩ : ByteArray)).bind fun t184 => (script_Parse.l0 k ([] : List (S36)) t184 (t184.length : Int) 0)))) = some (r1, r2) := h
 clear h
 replace H := Option.bind_eq_some_iff.mp H
 obtain ⟨t183, A20, H⟩ := H
 replace H : (if t183 = true then (some (([] : List (S36)), 3)) else ((strings_Split.f a0 (⟨#[10]⟩ : ByteArray)).bind fun t184 => (script_Parse.l0 k ([] : List (S36)) t184 (t184.length : Int) 0))) = some (r1, r2) := H
 have A2 := Aside0.mk A20
 clear A20
 by_cases c3 : t183 = true
 ·
  subst c3
  have H1 : (some (([] : List (S36)), 3)) = some (r1, r2) := by rw [if_pos rfl] at H; exact H
  clear H
  have H := H1
  clear H1
  simp only [Option.some.injEq, Prod.mk.injEq] at H
  obtain ⟨rfl, rfl⟩ := H
  go_enter Tryd.func18, Tryd.ntmps18
  go_wp2_with (first | ((with_reducible refine zay (f := 26) rfl ?_); refine goesL_ (some 10) rfl rfl Tryd.func26 (by kernel_rfl) rfl #[.string a0] rfl (by (try simp only [List.map_toArray, List.map_cons, List.map_nil]); first | done | rfl | (simp only [List.length_drop, List.length_take]; rfl)) ?_; (with_reducible refine (script_long.calls k a0 true _ ?side1 A2.out).mono ?_); (case side1 => exact zba HT.out (by repeat with_reducible first | exact HB.out | apply zae | apply zac | apply zad)); rintro e w4 ⟨rfl, hb⟩; refine ⟨_, rfl, ?_⟩; have n0_ := Aside0.mk (zap (by repeat with_reducible first | exact HB.out | apply zae | apply zac | apply zad) hb); clear HB; have HB := n0_; clear n0_; (try clear hb); (try clear hb2); (try clear hk); (try clear hi)))
  go_ret2
  exact ⟨_, by first | rfl | (simp [zam, zan] <;> rfl) | (simp [*, zam, zan] <;> rfl), by first | exact Kd.S_nil _ _ _ _ _ | exact Kd.N_nil _ _ _ _ _ | exact Kd.V_nil _ _ _ _ _ | exact Kd.Q_nil _ _ _ _ _ | exact Kd.R_nil _ _ _ _ _, by repeat with_reducible first | exact HB.out | apply zae | apply zac | apply zad⟩
 replace c3 := Bool.eq_false_iff.mpr c3
 subst c3
 have H1 : ((strings_Split.f a0 (⟨#[10]⟩ : ByteArray)).bind fun t184 => (script_Parse.l0 k ([] : List (S36)) t184 (t184.length : Int) 0)) = some (r1, r2) := by rw [if_neg (show ¬ (false = true) by decide)] at H; exact H
 clear H
 have H := H1
 clear H1
 replace H := Option.bind_eq_some_iff.mp H
 obtain ⟨t184, A50, H⟩ := H
 replace H : (script_Parse.l0 k ([] : List (S36)) t184 (t184.length : Int) 0) = some (r1, r2) := H
 have A5 := Aside0.mk A50
 clear A50
 have H' := Aside0.mk H
 clear H
 go_enter Tryd.func18, Tryd.ntmps18
 go_wp2_with (first | ((with_reducible refine zay (f := 26) rfl ?_); refine goesL_ (some 10) rfl rfl Tryd.func26 (by kernel_rfl) rfl #[.string a0] rfl (by (try simp only [List.map_toArray, List.map_cons, List.map_nil]); first | done | rfl | (simp only [List.length_drop, List.length_take]; rfl)) ?_; (with_reducible refine (script_long.calls k a0 false _ ?side1 A2.out).mono ?_); (case side1 => exact zba HT.out (by repeat with_reducible first | exact HB.out | apply zae | apply zac | apply zad)); rintro e w6 ⟨rfl, hb⟩; refine ⟨_, rfl, ?_⟩; have n0_ := Aside0.mk (zap (by repeat with_reducible first | exact HB.out | apply zae | apply zac | apply zad) hb); clear HB; have HB := n0_; clear n0_; (try clear hb); (try clear hb2); (try clear hk); (try clear hi)) | ((with_reducible refine zay (f := 31) rfl ?_); refine goesL_ (some 12) rfl rfl Tryd.func31 (by kernel_rfl) rfl #[.string a0, .string (⟨#[10]⟩ : ByteArray)] rfl (by (try simp only [List.map_toArray, List.map_cons, List.map_nil]); first | done | rfl | (simp only [List.length_drop, List.length_take]; rfl)) ?_; (with_reducible refine (strings_Split.calls a0 (⟨#[10]⟩ : ByteArray) t184 _ ?side1 A5.out).mono ?_); (case side1 => exact zba HT.out (by repeat with_reducible first | exact HB.out | apply zae | apply zac | apply zad)); rintro e w7 ⟨v185, rfl, ho0, hb⟩; refine ⟨_, rfl, ?_⟩; have n0_ := Aside0.mk (Kd.R_lower ho0 (zal (by repeat with_reducible first | exact HB.out | apply zae | apply zac | apply zad))); have n1_ := Aside0.mk (zap (by repeat with_reducible first | exact HB.out | apply zae | apply zac | apply zad) hb); clear HB; have HO186 := n0_; have HB := n1_; clear n0_ n1_; (try clear hb); (try clear hb2); (try clear hk); (try clear hi); (try clear ho0); obtain ⟨Ao8, co8, eo8⟩ := Kd.R_slice HO186.out; subst eo8))
 go_loopg [4, 14] k (fun kq v4 v14 w' => ∃ (x4_1 : List (S36)) (x14_1 : Int), v14 = .int .i64 x14_1 ∧ Aside0 (script_Parse.l0 kq x4_1 t184 (t184.length : Int) x14_1 = some (r1, r2)) ∧ Aside0 (kq ≤ k) ∧ Aside0 (Kd.S k36 36 w' w.heap.size (fun _ => True) v4 x4_1) ∧ Aside0 (Kd.R Kd.string 9 w' w.heap.size (fun _ => True) (.slice Ao8 t184.length co8) t184) ∧ Aside0 (Below w.heap.size w w'))
 case atStart => exact ⟨(([] : List (S36))), (0), (by first | rfl | (simp; done) | (simp [*]; done)), H', ⟨Nat.le_refl _⟩, ⟨by first | exact Kd.S_nil _ _ _ _ _ | exact Kd.N_nil _ _ _ _ _ | exact Kd.V_nil _ _ _ _ _ | exact Kd.Q_nil _ _ _ _ _ | exact Kd.R_nil _ _ _ _ _⟩, ⟨by (with_reducible repeat (first | apply Kd.R_alloc | apply Kd.R_drewN | apply Kd.R_drew)); exact HO186.out⟩, ⟨by repeat with_reducible first | exact HB.out | apply zae | apply zac | apply zad⟩⟩
 case round =>
  clear H'
  try clear c1
  try clear c2
  try clear p2
  try clear c3
  obtain ⟨x4_1, x14_1, rfl, HA, HK1, HO_4, HO_12, HB⟩ := hrel
  cases gk with
  | zero => exact absurd HA.out (by simp [script_Parse.l0])
  | succ k1 =>
   have H := HA.out
   clear HA
   simp only [script_Parse.l0] at H
   by_cases c9 : x14_1 < (t184.length : Int)
   rotate_left
   ·
    rw [if_neg c9] at H
    have c9b0 : decide (x14_1 < (t184.length : Int)) = false := decide_eq_false c9
    clear c9
    simp only [Option.some.injEq, Prod.mk.injEq] at H
    obtain ⟨rfl, rfl⟩ := H
    go_wp2
    go_ret2
    exact ⟨_, by first | rfl | (simp [zam, zan] <;> rfl) | (simp [*, zam, zan] <;> rfl), by (with_reducible repeat (first | apply Kd.S_alloc | apply Kd.S_drewN | apply Kd.S_drew)); exact HO_4.out, by repeat with_reducible first | exact HB.out | apply zae | apply zac | apply zad⟩
   rw [if_pos c9] at H
   have c9b0 : decide (x14_1 < (t184.length : Int)) = true := decide_eq_true c9
   clear c9
   by_cases c10 : 0 ≤ x14_1
   rotate_left
   ·
    rw [if_neg c10] at H
    exact absurd H (by simp)
   rw [if_pos c10] at H
   have c10b0 : decide (0 ≤ x14_1) = true := decide_eq_true c10
   clear c10
   by_cases c11 : x14_1 < (t184.length : Int)
   rotate_left
   ·
    rw [if_neg c11] at H
    exact absurd H (by simp)
   rw [if_pos c11] at H
   have c11b0 : decide (x14_1 < (t184.length : Int)) = true := decide_eq_true c11
   clear c11
   have HC12 := Aside0.mk H
   clear H
   have p187 : 0 ≤ (x14_1 : Int) := of_decide_eq_true (by first | (with_reducible assumption) | assumption)
   have q187 : x14_1 < (t184.length : Int) := of_decide_eq_true (by first | (with_reducible assumption) | assumption)
   obtain ⟨ad187, e187, hx187_0⟩ := Kd.at_string (Kd.R_reads' HO_12.out).2.2 x14_1 p187 q187
   cases e187
   replace p187 := eq_true p187
   replace q187 := eq_true q187
   go_upto_region 7 with (fail)
   go_cut [24] (fun v24 wc => ∃ (kq : Nat) (x24_11 : Bool), v24 = .bool x24_11 ∧ Aside0 (script_Parse.j1 kq x4_1 (rdOf ByteArray.empty t184 x14_1) t184 (t184.length : Int) x14_1 x24_11 = some (r1, r2)) ∧ Aside0 (kq ≤ k1) ∧ Aside0 (Kd.S k36 36 wc w.heap.size (fun _ => True) u4 x4_1) ∧ Aside0 (Kd.R Kd.string 9 wc w.heap.size (fun _ => True) (.slice (some ad187) t184.length co8) t184) ∧ Aside0 (Below w.heap.size w wc))
   case first =>
    have H := HC12.out
    clear HC12
    by_cases c13 : (rdOf ByteArray.empty t184 x14_1).toList = ([] : List UInt8)
    ·
     rw [if_pos c13] at H
     have c13b0 : ((rdOf ByteArray.empty t184 x14_1).toList == ([] : List UInt8)) = true := beq_iff_eq.mpr c13
     have c13b1 : ((rdOf ByteArray.empty t184 x14_1).toList != ([] : List UInt8)) = false := bne_eq_false_iff_eq.mpr c13
     (try (have c13b2 : (rdOf ByteArray.empty t184 x14_1).toList.isEmpty = true := by simpa using c13))
     clear c13
     (first | rw [c13b0] | (simp only [i64_w, i32_w]; rw [c13b0]) | rw [c13b2] | skip)
     have H' := Aside0.mk H
     clear H
     go_wp2
     go_meet
     case rel => exact ⟨_, (true), (by first | rfl | (simp; done) | (simp [*]; done)), H', ⟨by have := HK1.out; first | omega | exact Nat.le_refl _⟩, ⟨by (with_reducible repeat (first | apply Kd.S_alloc | apply Kd.S_drewN | apply Kd.S_drew)); exact HO_4.out⟩, ⟨by (with_reducible repeat (first | apply Kd.R_alloc | apply Kd.R_drewN | apply Kd.R_drew)); exact HO_12.out⟩, ⟨by repeat with_reducible first | exact HB.out | apply zae | apply zac | apply zad⟩⟩
    rw [if_neg c13] at H
    have c13b0 : ((rdOf ByteArray.empty t184 x14_1).toList == ([] : List UInt8)) = false := beq_eq_false_iff_ne.mpr c13
    have c13b1 : ((rdOf ByteArray.empty t184 x14_1).toList != ([] : List UInt8)) = true := bne_iff_ne.mpr c13
    (try (have c13b2 : (rdOf ByteArray.empty t184 x14_1).toList.isEmpty = false := by simpa using c13))
    (first | rw [c13b0] | (simp only [i64_w, i32_w]; rw [c13b0]) | rw [c13b2] | skip)
    by_cases c14 : 0 < ((rdOf ByteArray.empty t184 x14_1).size : Int)
    rotate_left
    ·
     rw [if_neg c14] at H
     exact absurd H (by simp)
    rw [if_pos c14] at H
    have c14b0 : decide (0 < ((rdOf ByteArray.empty t184 x14_1).size : Int)) = true := decide_eq_true c14
    have c14b1 : decide (0 < (rdOf ByteArray.empty t184 x14_1).size) = true := decide_eq_true (by omega)
    clear c14
    have H' := Aside0.mk H
    clear H
    have p15 : 0 ≤ (0 : Int) := (by omega)
    have q15 : 0 < (rdOf ByteArray.empty t184 x14_1).size := (by have : (0 : Int) < ((rdOf ByteArray.empty t184 x14_1).size : Int) := of_decide_eq_true (by first | (with_reducible assumption) | assumption); omega)
    have hx15 : ∀ h : 0 < (rdOf ByteArray.empty t184 x14_1).size, (((rdOf ByteArray.empty t184 x14_1)[0]'h).toNat : Int) = bt (rdOf ByteArray.empty t184 x14_1) 0 := bt_at (rdOf ByteArray.empty t184 x14_1) 0
    clear p15
    have qi15 : (0 < ((rdOf ByteArray.empty t184 x14_1).size : Int)) = True := eq_true (of_decide_eq_true (by first | (with_reducible assumption) | assumption))
    replace q15 := eq_true q15
    go_wp2
    go_meet
    case rel => exact ⟨_, (((bt (rdOf ByteArray.empty t184 x14_1) 0) == 35)), (by first | rfl | (simp; done) | (simp [*]; done)), H', ⟨by have := HK1.out; first | omega | exact Nat.le_refl _⟩, ⟨by (with_reducible repeat (first | apply Kd.S_alloc | apply Kd.S_drewN | apply Kd.S_drew)); exact HO_4.out⟩, ⟨by (with_reducible repeat (first | apply Kd.R_alloc | apply Kd.R_drewN | apply Kd.R_drew)); exact HO_12.out⟩, ⟨by repeat with_reducible first | exact HB.out | apply zae | apply zac | apply zad⟩⟩
   case rest =>
    clear HC12
    try clear c1
    try clear p1
    try clear q1
    try clear hx1
    try clear qi1
    try clear c2
    try clear p2
    try clear c3
    try clear c9
    try clear c9b0
    try clear c10
    try clear c10b0
    try clear c11
    try clear c11b0
    try clear c13
    try clear c13b0
    try clear c13b1
    try clear c13b2
    try clear c14
    try clear c14b0
    try clear c14b1
    try clear p15
    try clear q15
    try clear hx15
    try clear qi15
    try clear hx187_0
    try clear p15
    try clear p187
    try clear p2
    try clear q15
    try clear q187
    obtain ⟨kq, x24_11, rfl, HA, HJ11, HO_4, HO_12, HB⟩ := hcut
    cases kq with
    | zero => exact absurd HA.out (by simp [script_Parse.j1])
    | succ kj11 =>
     have H := HA.out
     clear HA
     simp only [script_Parse.j1] at H
     by_cases c16 : x24_11 = true
     ·
      subst c16
      have H1 : (script_Parse.l0 kj11 x4_1 t184 (t184.length : Int) (wrap64 (x14_1 + 1))) = some (r1, r2) := by rw [if_pos rfl] at H; exact H
      clear H
      have H := H1
      clear H1
      have H' := Aside0.mk H
      clear H
      go_wp2
      go_roundg kj11
      case measure => have := HK1.out; have := HJ11.out; omega
      case rel => exact ⟨(x4_1), (wrap64 (x14_1 + 1)), (by first | rfl | (simp; done) | (simp [*]; done)), H', ⟨by have := HK1.out; have := HJ11.out; omega⟩, ⟨by (with_reducible repeat (first | apply Kd.S_alloc | apply Kd.S_drewN | apply Kd.S_drew)); exact HO_4.out⟩, ⟨by (with_reducible repeat (first | apply Kd.R_alloc | apply Kd.R_drewN | apply Kd.R_drew)); exact HO_12.out⟩, ⟨by repeat with_reducible first | exact HB.out | apply zae | apply zac | apply zad⟩⟩
     replace c16 := Bool.eq_false_iff.mpr c16
     subst c16
     have H1 : ((script_command.f (rdOf ByteArray.empty t184 x14_1)).bind fun bt188 => (if bt188.2.2.2.2.2.2.2.2.2.2.2.2 = true then (if x4_1.length < 879609302220 then (script_Parse.l0 kj11 (x4_1 ++ [(⟨bt188.1, bt188.2.1, bt188.2.2.1, (⟨bt188.2.2.2.1, bt188.2.2.2.2.1, bt188.2.2.2.2.2.1, bt188.2.2.2.2.2.2.1, bt188.2.2.2.2.2.2.2.1, bt188.2.2.2.2.2.2.2.2.1, bt188.2.2.2.2.2.2.2.2.2.1, bt188.2.2.2.2.2.2.2.2.2.2.1⟩ : S34), bt188.2.2.2.2.2.2.2.2.2.2.2.1⟩ : S36)]) t184 (t184.length : Int) (wrap64 (x14_1 + 1))) else (none)) else (some (([] : List (S36)), 110)))) = some (r1, r2) := by rw [if_neg (show ¬ (false = true) by decide)] at H; exact H
     clear H
     have H := H1
     clear H1
     replace H := Option.bind_eq_some_iff.mp H
     obtain ⟨⟨t188, t189, t190, t191, t192, t193, t194, t195, t198, t199, t200, t203, t204⟩, A170, H⟩ := H
     replace H : (if t204 = true then (if x4_1.length < 879609302220 then (script_Parse.l0 kj11 (x4_1 ++ [(⟨t188, t189, t190, (⟨t191, t192, t193, t194, t195, t198, t199, t200⟩ : S34), t203⟩ : S36)]) t184 (t184.length : Int) (wrap64 (x14_1 + 1))) else (none)) else (some (([] : List (S36)), 110))) = some (r1, r2) := H
     have A17 := Aside0.mk A170
     clear A170
     by_cases c18 : t204 = true
     rotate_left
     ·
      replace c18 := Bool.eq_false_iff.mpr c18
      subst c18
      have H1 : (some (([] : List (S36)), 110)) = some (r1, r2) := by rw [if_neg (show ¬ (false = true) by decide)] at H; exact H
      clear H
      have H := H1
      clear H1
      simp only [Option.some.injEq, Prod.mk.injEq] at H
      obtain ⟨rfl, rfl⟩ := H
      go_wp2_with (first | ((with_reducible refine zay (f := 32) rfl ?_); refine goesL_ (some 27) rfl rfl Tryd.func32 (by kernel_rfl) rfl #[.string (rdOf ByteArray.empty t184 x14_1)] rfl (by (try simp only [List.map_toArray, List.map_cons, List.map_nil]); first | done | rfl | (simp only [List.length_drop, List.length_take]; rfl)) ?_; (with_reducible refine (script_command.calls (rdOf ByteArray.empty t184 x14_1) t188 t189 t190 t191 t192 t193 t194 t195 t198 t199 t200 t203 false _ ?side1 A17.out).mono ?_); (case side1 => exact zba HT.out (by repeat with_reducible first | exact HB.out | apply zae | apply zac | apply zad)); rintro e w28 ⟨v196, v201, rfl, ho0, ho1, hb⟩; refine ⟨_, rfl, ?_⟩; have n0_ := Aside0.mk (Kd.S_mono (Kd.S_told (Kd.S_told (Kd.S_old (by (with_reducible repeat (first | apply Kd.S_alloc | apply Kd.S_drewN | apply Kd.S_drew)); exact HO_4.out) hb) (Kd.R_base ho0)) (Kd.R_base ho1)) (fun _ h_ => h_.1)); have n1_ := Aside0.mk (Kd.R_below (by (with_reducible repeat (first | apply Kd.R_alloc | apply Kd.R_drewN | apply Kd.R_drew)); exact HO_12.out) hb); have n2_ := Aside0.mk (Kd.R_lower ho0 (zal (by repeat with_reducible first | exact HB.out | apply zae | apply zac | apply zad))); have n3_ := Aside0.mk (Kd.R_lower ho1 (zal (by repeat with_reducible first | exact HB.out | apply zae | apply zac | apply zad))); have n4_ := Aside0.mk (zap (by repeat with_reducible first | exact HB.out | apply zae | apply zac | apply zad) hb); clear HO_4; clear HO_12; clear HB; have HO_4 := n0_; have HO_12 := n1_; have HO197 := n2_; have HO202 := n3_; have HB := n4_; clear n0_ n1_ n2_ n3_ n4_; (try clear hb); (try clear hb2); (try clear hk); (try clear hi); (try clear ho0); (try clear ho1)) | ((with_reducible refine zbm (N := 7) rfl ?_); refine zbn ?hg (N := 7) ?hd (cs := #[.int .i64 0, .int .i64 0, .int .i64 0, .int .i64 0, .string (⟨#[]⟩ : ByteArray), .string (⟨#[]⟩ : ByteArray), .string (⟨#[]⟩ : ByteArray), .slice none 0 0, .int .i64 0, .int .i64 0, .slice none 0 0, .string (⟨#[]⟩ : ByteArray)]) (t := 36) ?hr ?_; (case hd => rfl); (case hg => rfl); (case hr => first | (go_simp; done) | (go_simp; rfl)); intro gb205 hg w29 hbox hb; have n0_ := Aside0.mk (Kd.S_below (Kd.S_elderB (by (with_reducible repeat (first | apply Kd.S_alloc | apply Kd.S_drewN | apply Kd.S_drew)); exact HO_4.out) gb205 (Nat.le_of_eq hg.symm)) hb); have n1_ := Aside0.mk (Kd.R_below (by (with_reducible repeat (first | apply Kd.R_alloc | apply Kd.R_drewN | apply Kd.R_drew)); exact HO_12.out) hb); have n2_ := Aside0.mk (Kd.R_below (by (with_reducible repeat (first | apply Kd.R_alloc | apply Kd.R_drewN | apply Kd.R_drew)); exact HO197.out) hb); have n3_ := Aside0.mk (Kd.R_below (by (with_reducible repeat (first | apply Kd.R_alloc | apply Kd.R_drewN | apply Kd.R_drew)); exact HO202.out) hb); have n4_ := Aside0.mk (zap (by repeat with_reducible first | exact HB.out | apply zae | apply zac | apply zad) hb); have n5_ := Aside0.mk (hbox); have n6_ := Aside0.mk ((by rw [hg]; exact (zal (by repeat with_reducible first | exact HB.out | apply zae | apply zac | apply zad)) : w.heap.size ≤ gb205)); have n7_ := Aside0.mk ((by rw [hg]; exact (zal (by repeat with_reducible first | exact HB.out | apply zae | apply zac | apply zad)) : w.heap.size ≤ gb205)); clear HO_4; clear HO_12; clear HO197; clear HO202; clear HB; have HO_4 := n0_; have HO_12 := n1_; have HO197 := n2_; have HO202 := n3_; have HB := n4_; have BK205 := n5_; have GW205 := n6_; have GE205 := n7_; clear n0_ n1_ n2_ n3_ n4_ n5_ n6_ n7_; clear hb hbox hg; have hcz30_0 : w29.cell? ⟨gb205, 0, none⟩ = some (.int .i64 0) := (zaa BK205.out 0).trans rfl; have hcz30_1 : w29.cell? ⟨gb205, 1, none⟩ = some (.int .i64 0) := (zaa BK205.out 1).trans rfl; have hcz30_2 : w29.cell? ⟨gb205, 2, none⟩ = some (.int .i64 0) := (zaa BK205.out 2).trans rfl; have hcz30_3 : w29.cell? ⟨gb205, 3, none⟩ = some (.int .i64 0) := (zaa BK205.out 3).trans rfl; have hcz30_4 : w29.cell? ⟨gb205, 4, none⟩ = some (.string (⟨#[]⟩ : ByteArray)) := (zaa BK205.out 4).trans rfl; have hcz30_5 : w29.cell? ⟨gb205, 5, none⟩ = some (.string (⟨#[]⟩ : ByteArray)) := (zaa BK205.out 5).trans rfl; have hcz30_6 : w29.cell? ⟨gb205, 6, none⟩ = some (.string (⟨#[]⟩ : ByteArray)) := (zaa BK205.out 6).trans rfl; have hcz30_7 : w29.cell? ⟨gb205, 7, none⟩ = some (.slice none 0 0) := (zaa BK205.out 7).trans rfl; have hcz30_8 : w29.cell? ⟨gb205, 8, none⟩ = some (.int .i64 0) := (zaa BK205.out 8).trans rfl; have hcz30_9 : w29.cell? ⟨gb205, 9, none⟩ = some (.int .i64 0) := (zaa BK205.out 9).trans rfl; have hcz30_10 : w29.cell? ⟨gb205, 10, none⟩ = some (.slice none 0 0) := (zaa BK205.out 10).trans rfl; have hcz30_11 : w29.cell? ⟨gb205, 11, none⟩ = some (.string (⟨#[]⟩ : ByteArray)) := (zaa BK205.out 11).trans rfl; have hfz30_0 := zab BK205.out 0; have hfz30_1 := zab BK205.out 1; have hfz30_2 := zab BK205.out 2; have hfz30_3 := zab BK205.out 3; have hfz30_4 := zab BK205.out 4; have hfz30_5 := zab BK205.out 5; have hfz30_6 := zab BK205.out 6; have hfz30_7 := zab BK205.out 7; have hfz30_8 := zab BK205.out 8; have hfz30_9 := zab BK205.out 9; have hfz30_10 := zab BK205.out 10; have hfz30_11 := zab BK205.out 11; obtain ⟨Ao31, co31, eo31⟩ := Kd.R_slice HO197.out; subst eo31; obtain ⟨Ao32, co32, eo32⟩ := Kd.R_slice HO202.out; subst eo32))
      go_ret2
      exact ⟨_, by first | rfl | (simp [zam, zan] <;> rfl) | (simp [*, zam, zan] <;> rfl), by first | exact Kd.S_nil _ _ _ _ _ | exact Kd.N_nil _ _ _ _ _ | exact Kd.V_nil _ _ _ _ _ | exact Kd.Q_nil _ _ _ _ _ | exact Kd.R_nil _ _ _ _ _, by repeat with_reducible first | exact HB.out | apply zae | apply zac | apply zad | refine zah ?_ GE205.out⟩
     subst c18
     have H1 : (if x4_1.length < 879609302220 then (script_Parse.l0 kj11 (x4_1 ++ [(⟨t188, t189, t190, (⟨t191, t192, t193, t194, t195, t198, t199, t200⟩ : S34), t203⟩ : S36)]) t184 (t184.length : Int) (wrap64 (x14_1 + 1))) else (none)) = some (r1, r2) := by rw [if_pos rfl] at H; exact H
     clear H
     have H := H1
     clear H1
     by_cases c19 : x4_1.length < 879609302220
     rotate_left
     ·
      rw [if_neg c19] at H
      exact absurd H (by simp)
     rw [if_pos c19] at H
     have LMc19 := Aside0.mk c19
     clear c19
     obtain ⟨y206, hy206⟩ : ∃ y_ : List (S36), y_ = (x4_1 ++ [(⟨t188, t189, t190, (⟨t191, t192, t193, t194, t195, t198, t199, t200⟩ : S34), t203⟩ : S36)]) := ⟨_, rfl⟩
     replace H : (script_Parse.l0 kj11 y206 t184 (t184.length : Int) (wrap64 (x14_1 + 1))) = some (r1, r2) := by first | (rw [hy206]; with_reducible exact H) | (have H2_ := (Option.bind_some _ _).symm.trans H; rw [hy206]; with_reducible exact H2_) | (have H2_ := (Option.bind_some _ _).symm.trans H; with_reducible exact H2_) | with_reducible exact H | (rw [hy206]; exact H) | exact H
     have Ny206 := Aside0.mk hy206
     clear hy206
     have H' := Aside0.mk H
     clear H
     go_wp2_with (first | ((with_reducible refine zay (f := 32) rfl ?_); refine goesL_ (some 27) rfl rfl Tryd.func32 (by kernel_rfl) rfl #[.string (rdOf ByteArray.empty t184 x14_1)] rfl (by (try simp only [List.map_toArray, List.map_cons, List.map_nil]); first | done | rfl | (simp only [List.length_drop, List.length_take]; rfl)) ?_; (with_reducible refine (script_command.calls (rdOf ByteArray.empty t184 x14_1) t188 t189 t190 t191 t192 t193 t194 t195 t198 t199 t200 t203 true _ ?side1 A17.out).mono ?_); (case side1 => exact zba HT.out (by repeat with_reducible first | exact HB.out | apply zae | apply zac | apply zad)); rintro e w20 ⟨v196, v201, rfl, ho0, ho1, hb⟩; refine ⟨_, rfl, ?_⟩; have n0_ := Aside0.mk (Kd.S_mono (Kd.S_told (Kd.S_told (Kd.S_old (by (with_reducible repeat (first | apply Kd.S_alloc | apply Kd.S_drewN | apply Kd.S_drew)); exact HO_4.out) hb) (Kd.R_base ho0)) (Kd.R_base ho1)) (fun _ h_ => h_.1)); have n1_ := Aside0.mk (Kd.R_below (by (with_reducible repeat (first | apply Kd.R_alloc | apply Kd.R_drewN | apply Kd.R_drew)); exact HO_12.out) hb); have n2_ := Aside0.mk (Kd.R_lower ho0 (zal (by repeat with_reducible first | exact HB.out | apply zae | apply zac | apply zad))); have n3_ := Aside0.mk (Kd.R_lower ho1 (zal (by repeat with_reducible first | exact HB.out | apply zae | apply zac | apply zad))); have n4_ := Aside0.mk (zap (by repeat with_reducible first | exact HB.out | apply zae | apply zac | apply zad) hb); clear HO_4; clear HO_12; clear HB; have HO_4 := n0_; have HO_12 := n1_; have HO197 := n2_; have HO202 := n3_; have HB := n4_; clear n0_ n1_ n2_ n3_ n4_; (try clear hb); (try clear hb2); (try clear hk); (try clear hi); (try clear ho0); (try clear ho1)) | ((with_reducible refine zbm (N := 7) rfl ?_); refine zbn ?hg (N := 7) ?hd (cs := #[.int .i64 0, .int .i64 0, .int .i64 0, .int .i64 0, .string (⟨#[]⟩ : ByteArray), .string (⟨#[]⟩ : ByteArray), .string (⟨#[]⟩ : ByteArray), .slice none 0 0, .int .i64 0, .int .i64 0, .slice none 0 0, .string (⟨#[]⟩ : ByteArray)]) (t := 36) ?hr ?_; (case hd => rfl); (case hg => rfl); (case hr => first | (go_simp; done) | (go_simp; rfl)); intro gb205 hg w21 hbox hb; have n0_ := Aside0.mk (Kd.S_below (Kd.S_elderB (by (with_reducible repeat (first | apply Kd.S_alloc | apply Kd.S_drewN | apply Kd.S_drew)); exact HO_4.out) gb205 (Nat.le_of_eq hg.symm)) hb); have n1_ := Aside0.mk (Kd.R_below (by (with_reducible repeat (first | apply Kd.R_alloc | apply Kd.R_drewN | apply Kd.R_drew)); exact HO_12.out) hb); have n2_ := Aside0.mk (Kd.R_below (by (with_reducible repeat (first | apply Kd.R_alloc | apply Kd.R_drewN | apply Kd.R_drew)); exact HO197.out) hb); have n3_ := Aside0.mk (Kd.R_below (by (with_reducible repeat (first | apply Kd.R_alloc | apply Kd.R_drewN | apply Kd.R_drew)); exact HO202.out) hb); have n4_ := Aside0.mk (zap (by repeat with_reducible first | exact HB.out | apply zae | apply zac | apply zad) hb); have n5_ := Aside0.mk (hbox); have n6_ := Aside0.mk ((by rw [hg]; exact (zal (by repeat with_reducible first | exact HB.out | apply zae | apply zac | apply zad)) : w.heap.size ≤ gb205)); have n7_ := Aside0.mk ((by rw [hg]; exact (zal (by repeat with_reducible first | exact HB.out | apply zae | apply zac | apply zad)) : w.heap.size ≤ gb205)); clear HO_4; clear HO_12; clear HO197; clear HO202; clear HB; have HO_4 := n0_; have HO_12 := n1_; have HO197 := n2_; have HO202 := n3_; have HB := n4_; have BK205 := n5_; have GW205 := n6_; have GE205 := n7_; clear n0_ n1_ n2_ n3_ n4_ n5_ n6_ n7_; clear hb hbox hg; have hcz22_0 : w21.cell? ⟨gb205, 0, none⟩ = some (.int .i64 0) := (zaa BK205.out 0).trans rfl; have hcz22_1 : w21.cell? ⟨gb205, 1, none⟩ = some (.int .i64 0) := (zaa BK205.out 1).trans rfl; have hcz22_2 : w21.cell? ⟨gb205, 2, none⟩ = some (.int .i64 0) := (zaa BK205.out 2).trans rfl; have hcz22_3 : w21.cell? ⟨gb205, 3, none⟩ = some (.int .i64 0) := (zaa BK205.out 3).trans rfl; have hcz22_4 : w21.cell? ⟨gb205, 4, none⟩ = some (.string (⟨#[]⟩ : ByteArray)) := (zaa BK205.out 4).trans rfl; have hcz22_5 : w21.cell? ⟨gb205, 5, none⟩ = some (.string (⟨#[]⟩ : ByteArray)) := (zaa BK205.out 5).trans rfl; have hcz22_6 : w21.cell? ⟨gb205, 6, none⟩ = some (.string (⟨#[]⟩ : ByteArray)) := (zaa BK205.out 6).trans rfl; have hcz22_7 : w21.cell? ⟨gb205, 7, none⟩ = some (.slice none 0 0) := (zaa BK205.out 7).trans rfl; have hcz22_8 : w21.cell? ⟨gb205, 8, none⟩ = some (.int .i64 0) := (zaa BK205.out 8).trans rfl; have hcz22_9 : w21.cell? ⟨gb205, 9, none⟩ = some (.int .i64 0) := (zaa BK205.out 9).trans rfl; have hcz22_10 : w21.cell? ⟨gb205, 10, none⟩ = some (.slice none 0 0) := (zaa BK205.out 10).trans rfl; have hcz22_11 : w21.cell? ⟨gb205, 11, none⟩ = some (.string (⟨#[]⟩ : ByteArray)) := (zaa BK205.out 11).trans rfl; have hfz22_0 := zab BK205.out 0; have hfz22_1 := zab BK205.out 1; have hfz22_2 := zab BK205.out 2; have hfz22_3 := zab BK205.out 3; have hfz22_4 := zab BK205.out 4; have hfz22_5 := zab BK205.out 5; have hfz22_6 := zab BK205.out 6; have hfz22_7 := zab BK205.out 7; have hfz22_8 := zab BK205.out 8; have hfz22_9 := zab BK205.out 9; have hfz22_10 := zab BK205.out 10; have hfz22_11 := zab BK205.out 11; obtain ⟨Ao23, co23, eo23⟩ := Kd.R_slice HO197.out; subst eo23; obtain ⟨Ao24, co24, eo24⟩ := Kd.R_slice HO202.out; subst eo24) | ((with_reducible refine gate_store (t := 36) (p := 7) rfl ?_); refine store_event (t := 36) (p := 7) (v := ?vo_w25) (w1 := ((((((((((((w21.setCell ⟨gb205, 0, none⟩ (.int .i64 t188)).setCell ⟨gb205, 1, none⟩ (.int .i64 t189)).setCell ⟨gb205, 2, none⟩ (.int .i64 t190)).setCell ⟨gb205, 3, none⟩ (.int .i64 t191)).setCell ⟨gb205, 4, none⟩ (.string t192)).setCell ⟨gb205, 5, none⟩ (.string t193)).setCell ⟨gb205, 6, none⟩ (.string t194)).setCell ⟨gb205, 7, none⟩ (.slice Ao23 t195.length co23)).setCell ⟨gb205, 8, none⟩ (.int .i64 t198)).setCell ⟨gb205, 9, none⟩ (.int .i64 t199)).setCell ⟨gb205, 10, none⟩ (.slice Ao24 t200.length co24)).setCell ⟨gb205, 11, none⟩ (.string t203))) ?hg ?ho ?hn ?hr ?_; (case ho => rfl); (case hg => rfl); (case hn => rfl); (case hr => first | (go_simp; done) | (go_simp; rfl)); intro w25 hw; have n0_ : Aside0 (Kd.S k36 36 w25 w.heap.size (fun k_ => some k_ ≠ (.slice Ao23 t195.length co23 : Value).ownBlock ∧ some k_ ≠ (.slice Ao24 t200.length co24 : Value).ownBlock ∧ k_ ≠ gb205) u4 x4_1) := ⟨(by rw [hw]; exact (by (with_reducible repeat (first | apply Kd.S_alloc | apply Kd.S_drewN | apply Kd.S_drew)); exact Kd.S_mono (Kd.S_far (p := ⟨gb205, 11, none⟩) (Kd.S_far (p := ⟨gb205, 10, none⟩) (Kd.S_far (p := ⟨gb205, 9, none⟩) (Kd.S_far (p := ⟨gb205, 8, none⟩) (Kd.S_far (p := ⟨gb205, 7, none⟩) (Kd.S_far (p := ⟨gb205, 6, none⟩) (Kd.S_far (p := ⟨gb205, 5, none⟩) (Kd.S_far (p := ⟨gb205, 4, none⟩) (Kd.S_far (p := ⟨gb205, 3, none⟩) (Kd.S_far (p := ⟨gb205, 2, none⟩) (Kd.S_far (p := ⟨gb205, 1, none⟩) (Kd.S_far (p := ⟨gb205, 0, none⟩) (Kd.S_mono HO_4.out (fun k_ hk => (⟨hk, hk.2⟩ : _ ∧ k_ ≠ gb205))) (fun _ hk => hk.2) (.int .i64 t188)) (fun _ hk => hk.2) (.int .i64 t189)) (fun _ hk => hk.2) (.int .i64 t190)) (fun _ hk => hk.2) (.int .i64 t191)) (fun _ hk => hk.2) (.string t192)) (fun _ hk => hk.2) (.string t193)) (fun _ hk => hk.2) (.string t194)) (fun _ hk => hk.2) (.slice Ao23 t195.length co23)) (fun _ hk => hk.2) (.int .i64 t198)) (fun _ hk => hk.2) (.int .i64 t199)) (fun _ hk => hk.2) (.slice Ao24 t200.length co24)) (fun _ hk => hk.2) (.string t203)) (fun _ hk => ⟨hk.1.1.1.2, ⟨hk.1.1.2, hk.1.2⟩⟩)))⟩; have n1_ : Aside0 (Kd.R Kd.string 9 w25 w.heap.size (fun _ => True) (.slice (some ad187) t184.length co8) t184) := ⟨(by rw [hw]; exact (by (with_reducible repeat (first | apply Kd.R_alloc | apply Kd.R_drewN | apply Kd.R_drew)); exact Kd.R_mono (Kd.R_far (p := ⟨gb205, 11, none⟩) (Kd.R_far (p := ⟨gb205, 10, none⟩) (Kd.R_far (p := ⟨gb205, 9, none⟩) (Kd.R_far (p := ⟨gb205, 8, none⟩) (Kd.R_far (p := ⟨gb205, 7, none⟩) (Kd.R_far (p := ⟨gb205, 6, none⟩) (Kd.R_far (p := ⟨gb205, 5, none⟩) (Kd.R_far (p := ⟨gb205, 4, none⟩) (Kd.R_far (p := ⟨gb205, 3, none⟩) (Kd.R_far (p := ⟨gb205, 2, none⟩) (Kd.R_far (p := ⟨gb205, 1, none⟩) (Kd.R_far (p := ⟨gb205, 0, none⟩) (Kd.R_types HO_12.out BK205.out (by decide)) (fun _ hk => hk.2) (.int .i64 t188)) (fun _ hk => hk.2) (.int .i64 t189)) (fun _ hk => hk.2) (.int .i64 t190)) (fun _ hk => hk.2) (.int .i64 t191)) (fun _ hk => hk.2) (.string t192)) (fun _ hk => hk.2) (.string t193)) (fun _ hk => hk.2) (.string t194)) (fun _ hk => hk.2) (.slice Ao23 t195.length co23)) (fun _ hk => hk.2) (.int .i64 t198)) (fun _ hk => hk.2) (.int .i64 t199)) (fun _ hk => hk.2) (.slice Ao24 t200.length co24)) (fun _ hk => hk.2) (.string t203)) (fun _ hk => trivial)))⟩; have n2_ : Aside0 (Kd.R k38 38 w25 w.heap.size (fun _ => True) (.slice Ao23 t195.length co23) t195) := ⟨(by rw [hw]; exact (by (with_reducible repeat (first | apply Kd.R_alloc | apply Kd.R_drewN | apply Kd.R_drew)); exact Kd.R_mono (Kd.R_far (p := ⟨gb205, 11, none⟩) (Kd.R_far (p := ⟨gb205, 10, none⟩) (Kd.R_far (p := ⟨gb205, 9, none⟩) (Kd.R_far (p := ⟨gb205, 8, none⟩) (Kd.R_far (p := ⟨gb205, 7, none⟩) (Kd.R_far (p := ⟨gb205, 6, none⟩) (Kd.R_far (p := ⟨gb205, 5, none⟩) (Kd.R_far (p := ⟨gb205, 4, none⟩) (Kd.R_far (p := ⟨gb205, 3, none⟩) (Kd.R_far (p := ⟨gb205, 2, none⟩) (Kd.R_far (p := ⟨gb205, 1, none⟩) (Kd.R_far (p := ⟨gb205, 0, none⟩) (Kd.R_types HO197.out BK205.out (by decide)) (fun _ hk => hk.2) (.int .i64 t188)) (fun _ hk => hk.2) (.int .i64 t189)) (fun _ hk => hk.2) (.int .i64 t190)) (fun _ hk => hk.2) (.int .i64 t191)) (fun _ hk => hk.2) (.string t192)) (fun _ hk => hk.2) (.string t193)) (fun _ hk => hk.2) (.string t194)) (fun _ hk => hk.2) (.slice Ao23 t195.length co23)) (fun _ hk => hk.2) (.int .i64 t198)) (fun _ hk => hk.2) (.int .i64 t199)) (fun _ hk => hk.2) (.slice Ao24 t200.length co24)) (fun _ hk => hk.2) (.string t203)) (fun _ hk => trivial)))⟩; have n3_ : Aside0 (Kd.R (Kd.int .i64) 3 w25 w.heap.size (fun _ => True) (.slice Ao24 t200.length co24) t200) := ⟨(by rw [hw]; exact (by (with_reducible repeat (first | apply Kd.R_alloc | apply Kd.R_drewN | apply Kd.R_drew)); exact Kd.R_mono (Kd.R_far (p := ⟨gb205, 11, none⟩) (Kd.R_far (p := ⟨gb205, 10, none⟩) (Kd.R_far (p := ⟨gb205, 9, none⟩) (Kd.R_far (p := ⟨gb205, 8, none⟩) (Kd.R_far (p := ⟨gb205, 7, none⟩) (Kd.R_far (p := ⟨gb205, 6, none⟩) (Kd.R_far (p := ⟨gb205, 5, none⟩) (Kd.R_far (p := ⟨gb205, 4, none⟩) (Kd.R_far (p := ⟨gb205, 3, none⟩) (Kd.R_far (p := ⟨gb205, 2, none⟩) (Kd.R_far (p := ⟨gb205, 1, none⟩) (Kd.R_far (p := ⟨gb205, 0, none⟩) (Kd.R_types HO202.out BK205.out (by decide)) (fun _ hk => hk.2) (.int .i64 t188)) (fun _ hk => hk.2) (.int .i64 t189)) (fun _ hk => hk.2) (.int .i64 t190)) (fun _ hk => hk.2) (.int .i64 t191)) (fun _ hk => hk.2) (.string t192)) (fun _ hk => hk.2) (.string t193)) (fun _ hk => hk.2) (.string t194)) (fun _ hk => hk.2) (.slice Ao23 t195.length co23)) (fun _ hk => hk.2) (.int .i64 t198)) (fun _ hk => hk.2) (.int .i64 t199)) (fun _ hk => hk.2) (.slice Ao24 t200.length co24)) (fun _ hk => hk.2) (.string t203)) (fun _ hk => trivial)))⟩; have n4_ : Aside0 (w25.heap[gb205]? = some (.cells #[.int .i64 t188, .int .i64 t189, .int .i64 t190, .int .i64 t191, .string t192, .string t193, .string t194, .slice Ao23 t195.length co23, .int .i64 t198, .int .i64 t199, .slice Ao24 t200.length co24, .string t203] 36 (0, 0))) := ⟨(by rw [hw]; exact (by (with_reducible repeat (first | refine zai ?_ _ | refine zaj ?_ | refine zag ?_ _)); refine zar (cs := #[.int .i64 t188, .int .i64 t189, .int .i64 t190, .int .i64 t191, .string t192, .string t193, .string t194, .slice Ao23 t195.length co23, .int .i64 t198, .int .i64 t199, .slice Ao24 t200.length co24, .string (⟨#[]⟩ : ByteArray)]) ?_ 11 _ rfl; (with_reducible repeat (first | refine zai ?_ _ | refine zaj ?_ | refine zag ?_ _)); refine zar (cs := #[.int .i64 t188, .int .i64 t189, .int .i64 t190, .int .i64 t191, .string t192, .string t193, .string t194, .slice Ao23 t195.length co23, .int .i64 t198, .int .i64 t199, .slice none 0 0, .string (⟨#[]⟩ : ByteArray)]) ?_ 10 _ rfl; (with_reducible repeat (first | refine zai ?_ _ | refine zaj ?_ | refine zag ?_ _)); refine zar (cs := #[.int .i64 t188, .int .i64 t189, .int .i64 t190, .int .i64 t191, .string t192, .string t193, .string t194, .slice Ao23 t195.length co23, .int .i64 t198, .int .i64 0, .slice none 0 0, .string (⟨#[]⟩ : ByteArray)]) ?_ 9 _ rfl; (with_reducible repeat (first | refine zai ?_ _ | refine zaj ?_ | refine zag ?_ _)); refine zar (cs := #[.int .i64 t188, .int .i64 t189, .int .i64 t190, .int .i64 t191, .string t192, .string t193, .string t194, .slice Ao23 t195.length co23, .int .i64 0, .int .i64 0, .slice none 0 0, .string (⟨#[]⟩ : ByteArray)]) ?_ 8 _ rfl; (with_reducible repeat (first | refine zai ?_ _ | refine zaj ?_ | refine zag ?_ _)); refine zar (cs := #[.int .i64 t188, .int .i64 t189, .int .i64 t190, .int .i64 t191, .string t192, .string t193, .string t194, .slice none 0 0, .int .i64 0, .int .i64 0, .slice none 0 0, .string (⟨#[]⟩ : ByteArray)]) ?_ 7 _ rfl; (with_reducible repeat (first | refine zai ?_ _ | refine zaj ?_ | refine zag ?_ _)); refine zar (cs := #[.int .i64 t188, .int .i64 t189, .int .i64 t190, .int .i64 t191, .string t192, .string t193, .string (⟨#[]⟩ : ByteArray), .slice none 0 0, .int .i64 0, .int .i64 0, .slice none 0 0, .string (⟨#[]⟩ : ByteArray)]) ?_ 6 _ rfl; (with_reducible repeat (first | refine zai ?_ _ | refine zaj ?_ | refine zag ?_ _)); refine zar (cs := #[.int .i64 t188, .int .i64 t189, .int .i64 t190, .int .i64 t191, .string t192, .string (⟨#[]⟩ : ByteArray), .string (⟨#[]⟩ : ByteArray), .slice none 0 0, .int .i64 0, .int .i64 0, .slice none 0 0, .string (⟨#[]⟩ : ByteArray)]) ?_ 5 _ rfl; (with_reducible repeat (first | refine zai ?_ _ | refine zaj ?_ | refine zag ?_ _)); refine zar (cs := #[.int .i64 t188, .int .i64 t189, .int .i64 t190, .int .i64 t191, .string (⟨#[]⟩ : ByteArray), .string (⟨#[]⟩ : ByteArray), .string (⟨#[]⟩ : ByteArray), .slice none 0 0, .int .i64 0, .int .i64 0, .slice none 0 0, .string (⟨#[]⟩ : ByteArray)]) ?_ 4 _ rfl; (with_reducible repeat (first | refine zai ?_ _ | refine zaj ?_ | refine zag ?_ _)); refine zar (cs := #[.int .i64 t188, .int .i64 t189, .int .i64 t190, .int .i64 0, .string (⟨#[]⟩ : ByteArray), .string (⟨#[]⟩ : ByteArray), .string (⟨#[]⟩ : ByteArray), .slice none 0 0, .int .i64 0, .int .i64 0, .slice none 0 0, .string (⟨#[]⟩ : ByteArray)]) ?_ 3 _ rfl; (with_reducible repeat (first | refine zai ?_ _ | refine zaj ?_ | refine zag ?_ _)); refine zar (cs := #[.int .i64 t188, .int .i64 t189, .int .i64 0, .int .i64 0, .string (⟨#[]⟩ : ByteArray), .string (⟨#[]⟩ : ByteArray), .string (⟨#[]⟩ : ByteArray), .slice none 0 0, .int .i64 0, .int .i64 0, .slice none 0 0, .string (⟨#[]⟩ : ByteArray)]) ?_ 2 _ rfl; (with_reducible repeat (first | refine zai ?_ _ | refine zaj ?_ | refine zag ?_ _)); refine zar (cs := #[.int .i64 t188, .int .i64 0, .int .i64 0, .int .i64 0, .string (⟨#[]⟩ : ByteArray), .string (⟨#[]⟩ : ByteArray), .string (⟨#[]⟩ : ByteArray), .slice none 0 0, .int .i64 0, .int .i64 0, .slice none 0 0, .string (⟨#[]⟩ : ByteArray)]) ?_ 1 _ rfl; (with_reducible repeat (first | refine zai ?_ _ | refine zaj ?_ | refine zag ?_ _)); refine zar (cs := #[.int .i64 0, .int .i64 0, .int .i64 0, .int .i64 0, .string (⟨#[]⟩ : ByteArray), .string (⟨#[]⟩ : ByteArray), .string (⟨#[]⟩ : ByteArray), .slice none 0 0, .int .i64 0, .int .i64 0, .slice none 0 0, .string (⟨#[]⟩ : ByteArray)]) ?_ 0 _ rfl; (with_reducible repeat (first | refine zai ?_ _ | refine zaj ?_ | refine zag ?_ _)); exact BK205.out))⟩; have n5_ : Aside0 (Below w.heap.size w w25) := ⟨(by rw [hw]; exact (by repeat with_reducible first | exact HB.out | apply zae | apply zac | apply zad | refine zah ?_ GE205.out))⟩; clear hw; clear HO_4; clear HO_12; clear HO197; clear HO202; clear BK205; clear HB; have HO_4 := n0_; have HO_12 := n1_; have HO197 := n2_; have HO202 := n3_; have BK205 := n4_; have HB := n5_; clear n0_ n1_ n2_ n3_ n4_ n5_; have hcz26_0 : w25.cell? ⟨gb205, 0, none⟩ = some (.int .i64 t188) := (zaa BK205.out 0).trans rfl; have hcz26_1 : w25.cell? ⟨gb205, 1, none⟩ = some (.int .i64 t189) := (zaa BK205.out 1).trans rfl; have hcz26_2 : w25.cell? ⟨gb205, 2, none⟩ = some (.int .i64 t190) := (zaa BK205.out 2).trans rfl; have hcz26_3 : w25.cell? ⟨gb205, 3, none⟩ = some (.int .i64 t191) := (zaa BK205.out 3).trans rfl; have hcz26_4 : w25.cell? ⟨gb205, 4, none⟩ = some (.string t192) := (zaa BK205.out 4).trans rfl; have hcz26_5 : w25.cell? ⟨gb205, 5, none⟩ = some (.string t193) := (zaa BK205.out 5).trans rfl; have hcz26_6 : w25.cell? ⟨gb205, 6, none⟩ = some (.string t194) := (zaa BK205.out 6).trans rfl; have hcz26_7 : w25.cell? ⟨gb205, 7, none⟩ = some (.slice Ao23 t195.length co23) := (zaa BK205.out 7).trans rfl; have hcz26_8 : w25.cell? ⟨gb205, 8, none⟩ = some (.int .i64 t198) := (zaa BK205.out 8).trans rfl; have hcz26_9 : w25.cell? ⟨gb205, 9, none⟩ = some (.int .i64 t199) := (zaa BK205.out 9).trans rfl; have hcz26_10 : w25.cell? ⟨gb205, 10, none⟩ = some (.slice Ao24 t200.length co24) := (zaa BK205.out 10).trans rfl; have hcz26_11 : w25.cell? ⟨gb205, 11, none⟩ = some (.string t203) := (zaa BK205.out 11).trans rfl; have hfz26_0 := zab BK205.out 0; have hfz26_1 := zab BK205.out 1; have hfz26_2 := zab BK205.out 2; have hfz26_3 := zab BK205.out 3; have hfz26_4 := zab BK205.out 4; have hfz26_5 := zab BK205.out 5; have hfz26_6 := zab BK205.out 6; have hfz26_7 := zab BK205.out 7; have hfz26_8 := zab BK205.out 8; have hfz26_9 := zab BK205.out 9; have hfz26_10 := zab BK205.out 10; have hfz26_11 := zab BK205.out 11) | ((with_reducible refine zax (b := .append) (xs := #[.tmp 32, .tmp 34]) rfl ?_); at_builtin; refine Kd.S_append k36 (w0 := w) w.heap.size rfl (.tmp 32) (.tmp 34) 23 36 (.agg #[(.int .i64 0), (.int .i64 0), (.int .i64 0), (.int .i64 0), (.string ⟨#[]⟩), (.string ⟨#[]⟩), (.string ⟨#[]⟩), (.slice none 0 0), (.int .i64 0), (.int .i64 0), (.slice none 0 0), (.string ⟨#[]⟩)]) 160 rfl Tryd.underlying23 info36 rfl (by decide) (by omega) u4 x4_1 (⟨t188, t189, t190, (⟨t191, t192, t193, t194, t195, t198, t199, t200⟩ : S34), t203⟩ : S36) [.int .i64 t188, .int .i64 t189, .int .i64 t190, .int .i64 t191, .string t192, .string t193, .string t194, .slice Ao23 t195.length co23, .int .i64 t198, .int .i64 t199, .slice Ao24 t200.length co24, .string t203] (fun k_ => k_ ≠ gb205) (fun k_ => some k_ = (.slice Ao23 t195.length co23 : Value).ownBlock ∨ some k_ = (.slice Ao24 t200.length co24 : Value).ownBlock) rfl rfl ?aP (fun k_ hk_ => hk_.elim (fun h_ => ((Kd.R_mono (ok' := fun k_ => ((fun k_ => k_ ≠ gb205)) k_ ∧ some k_ ≠ (u4 : Value).ownBlock) (Kd.R_types (Kd.R_apart' (HO197.out) (Kd.S_typed HO_4.out) (by decide)) BK205.out (by decide)) (fun k_ hk => ⟨hk.2, hk.1.2⟩))).1 k_ h_.symm) (fun h_ => ((Kd.R_mono (ok' := fun k_ => ((fun k_ => k_ ≠ gb205)) k_ ∧ some k_ ≠ (u4 : Value).ownBlock) (Kd.R_types (Kd.R_apart' (HO202.out) (Kd.S_typed HO_4.out) (by decide)) BK205.out (by decide)) (fun k_ hk => ⟨hk.2, hk.1.2⟩))).1 k_ h_.symm)) ?aF ?aO ?aB ?aS ?aL ?_; (case aP => exact k36_mkM _ _ _ (⟨t188, t189, t190, (⟨t191, t192, t193, t194, t195, t198, t199, t200⟩ : S34), t203⟩ : S36) (Kd.R_mono (Kd.R_tight rfl (Kd.R_mono (ok' := fun k_ => ((fun k_ => k_ ≠ gb205)) k_ ∧ some k_ ≠ (u4 : Value).ownBlock) (Kd.R_types (Kd.R_apart' (HO197.out) (Kd.S_typed HO_4.out) (by decide)) BK205.out (by decide)) (fun k_ hk => ⟨hk.2, hk.1.2⟩))) (fun _ h_ => Or.inl h_)) (Kd.R_mono (Kd.R_tight rfl (Kd.R_mono (ok' := fun k_ => ((fun k_ => k_ ≠ gb205)) k_ ∧ some k_ ≠ (u4 : Value).ownBlock) (Kd.R_types (Kd.R_apart' (HO202.out) (Kd.S_typed HO_4.out) (by decide)) BK205.out (by decide)) (fun k_ hk => ⟨hk.2, hk.1.2⟩))) (fun _ h_ => Or.inr (h_)))); (case aB => exact (by repeat with_reducible first | exact HB.out | apply zae | apply zac | apply zad | refine zah ?_ GE205.out)); (case aF => exact (fun k_ hk => Kd.freshB (g := gb205) (o := .cells #[.int .i64 t188, .int .i64 t189, .int .i64 t190, .int .i64 t191, .string t192, .string t193, .string t194, .slice Ao23 t195.length co23, .int .i64 t198, .int .i64 t199, .slice Ao24 t200.length co24, .string t203] 36 (0, 0)) (by (with_reducible repeat (first | refine zai ?_ _ | refine zaj ?_ | refine zag ?_ _)); exact BK205.out) k_ hk)); (case aO => exact (by (with_reducible repeat (first | apply Kd.S_alloc | apply Kd.S_drewN | apply Kd.S_drew)); exact Kd.S_mono HO_4.out (fun k_ hk => ⟨hk.2.2, fun e_ => e_.elim (fun h_ => hk.1 h_) (fun h_ => hk.2.1 h_)⟩))); (case aS => exact (zal (by repeat with_reducible first | exact HB.out | apply zae | apply zac | apply zad | refine zah ?_ GE205.out))); (case aL => have := LMc19.out; omega); intro v207 w27 ho hb hg hat; rw [← Ny206.out] at ho; have n0_ := Aside0.mk (Kd.R_over' (by (with_reducible repeat (first | apply Kd.R_alloc | apply Kd.R_drewN | apply Kd.R_drew)); exact HO_12.out) (Kd.S_typed (by (with_reducible repeat (first | apply Kd.S_alloc | apply Kd.S_drewN | apply Kd.S_drew)); exact HO_4.out)) (by decide) hg); have n1_ := Aside0.mk (zbk (g := gb205) (o := .cells #[.int .i64 t188, .int .i64 t189, .int .i64 t190, .int .i64 t191, .string t192, .string t193, .string t194, .slice Ao23 t195.length co23, .int .i64 t198, .int .i64 t199, .slice Ao24 t200.length co24, .string t203] 36 (0, 0)) (by (with_reducible repeat (first | refine zai ?_ _ | refine zaj ?_ | refine zag ?_ _)); exact BK205.out) hg (Kd.S_away HO_4.out (fun _ hk => hk.2.2))); have n2_ := Aside0.mk (hb); have n3_ := Aside0.mk (ho); clear HO_12; clear BK205; clear HB; clear HO_4; clear HO197; clear HO202; have HO_12 := n0_; have BK205 := n1_; have HB := n2_; have HO208 := n3_; clear n0_ n1_ n2_ n3_; clear ho hb hg hat))
     go_roundg kj11
     case measure => have := HK1.out; have := HJ11.out; omega
     case rel => exact ⟨(y206), (wrap64 (x14_1 + 1)), (by first | rfl | (simp; done) | (simp [*]; done)), H', ⟨by have := HK1.out; have := HJ11.out; omega⟩, ⟨by (with_reducible repeat (first | apply Kd.S_alloc | apply Kd.S_drewN | apply Kd.S_drew)); exact Kd.S_mono HO208.out (fun _ hk => trivial)⟩, ⟨by (with_reducible repeat (first | apply Kd.R_alloc | apply Kd.R_drewN | apply Kd.R_drew)); exact HO_12.out⟩, ⟨by repeat with_reducible first | exact HB.out | apply zae | apply zac | apply zad | refine zah ?_ GE205.out⟩⟩

end Go.Proofs.YtdmlgligljagoaaDoor.PS

set_option linter.unusedVariables false
set_option linter.unusedSimpArgs false
namespace Go.Proofs.YtdmlgligljagoaaDoor
open Go.RowKit Go.Proofs.YtdmlgligljagoaaDoorW.PrintWords PS

/-- a text cut at each byte 10 -/
def zas : List UInt8 → List (List UInt8)
  | [] => [[]]
  | c :: r => if c = 10 then [] :: zas r else match zas r with
    | [] => [[c]]
    | a :: t => (c :: a) :: t
theorem index_nl (c : UInt8) (l : List UInt8) : Lib.index (c :: l) [10] = if c = 10 then 0 else if Lib.index l [10] = -1 then -1 else Lib.index l [10] + 1 := by
  rw [Lib.index]
  by_cases h : c = 10
  · subst h; rfl
  · rw [if_neg h, if_neg (by simp [List.isPrefixOf]; exact fun e => h e.symm)]
    simp
theorem splitK_nl : ∀ (l : List UInt8) (k : Nat), Lib.count l [10] = k → Lib.splitK [10] 0 k l = zas l
  | [], k, h => by
    subst h; rfl
  | c :: l, k, h => by
    by_cases hc : c = 10
    · subst hc
      rw [Lib.count_cons_eq] at h
      obtain ⟨j, rfl⟩ : ∃ j, k = j + 1 := ⟨k - 1, by omega⟩
      rw [Lib.splitK, index_nl, if_pos rfl, if_neg (by decide), zas, if_pos rfl]
      congr 1
      exact splitK_nl l j (by omega)
    · rw [Lib.count_cons_ne c 10 l hc] at h
      have ih := splitK_nl l k h
      rw [zas, if_neg hc, ← ih]
      cases k with
      | zero => rfl
      | succ j =>
        have hi := index_nl c l
        rw [if_neg hc] at hi
        by_cases hm : Lib.index l [10] = -1
        · rw [if_pos hm] at hi
          rw [Lib.splitK, Lib.splitK, hi, hm]
          rfl
        · rw [if_neg hm] at hi
          have hge := Lib.index_ge l [10]
          rw [Lib.splitK, Lib.splitK, hi, if_neg (by simp; omega), if_neg (by simpa using hm)]
          obtain ⟨n, hn⟩ := Int.eq_ofNat_of_zero_le (show 0 ≤ Lib.index l [10] by omega)
          rw [hn]
          rfl
theorem splitNl_ne (l : List UInt8) : zas l ≠ [] := by
  cases l with
  | nil => simp [zas]
  | cons c r => rw [zas]; split; simp; split <;> simp
theorem splitNl_len : ∀ l : List UInt8, (zas l).length ≤ l.length + 1
  | [] => by simp [zas]
  | c :: r => by
    have ih := splitNl_len r
    rw [zas]; split
    · simp; omega
    · split <;> rename_i h <;> rw [h] at ih <;> simp at ih ⊢ <;> omega
theorem splitNl_mem : ∀ (l x : List UInt8), x ∈ zas l → x.length ≤ l.length
  | [], x, h => by simp [zas] at h; simp [h]
  | c :: r, x, h => by
    have ih := splitNl_mem r
    rw [zas] at h
    split at h
    · rcases List.mem_cons.1 h with rfl | h
      · simp
      · have := ih x h; simp; omega
    · split at h <;> rename_i e <;> rw [e] at ih
      · simp at h; simp [h]
      · rcases List.mem_cons.1 h with rfl | h
        · have := ih _ List.mem_cons_self; simp; omega
        · have := ih x (List.mem_cons_of_mem _ h); simp; omega
theorem split_is (l : List UInt8) (h : l.length < 4294967281) : strings_Split.f (bs l) (⟨#[10]⟩ : ByteArray) = some ((zas l).map bs) := by
  have e : Lib.splitB (⟨#[10]⟩ : ByteArray) 0 (Lib.countB (bs l) (⟨#[10]⟩ : ByteArray)) (bs l) = (zas l).map bs := by
    have h1 := Lib.splitB_data (⟨#[10]⟩ : ByteArray) 0 (Lib.countB (bs l) (⟨#[10]⟩ : ByteArray)) (bs l)
    rw [zbc, show (⟨#[10]⟩ : ByteArray).data.toList = [10] from rfl] at h1
    have h2 := splitK_nl l _ (rfl : Lib.count l [10] = _)
    rw [← h2]
    have h3 : Lib.countB (bs l) (⟨#[10]⟩ : ByteArray) = Lib.count l [10] := by unfold Lib.countB; rw [zbc]
    rw [h3] at h1 ⊢
    rw [← h1, List.map_map]
    conv => lhs; rw [← List.map_id (Lib.splitB _ _ _ _)]
    exact List.map_congr_left (fun s _ => (bs_self s).symm)
  have hl := Lib.splitB_all (⟨#[10]⟩ : ByteArray) (by decide) 0 _ (bs l) rfl
  have hn := Lib.countB_le (⟨#[10]⟩ : ByteArray) (by decide) _ (bs l) (Nat.le_refl _)
  rw [zao] at hn
  unfold strings_Split.f
  rw [if_pos ⟨by rw [zao]; exact h, by decide, hl, by unfold maxLen; omega⟩, e]
/-- the lines of a text: a last empty one doesn't count -/
def dropE (l : List (List UInt8)) : List (List UInt8) := if l.getLast? = some [] then l.dropLast else l
def longV (s : List UInt8) : Bool := decide (65536 < s.length) || ((dropE (zas s)).any (fun x => decide (8192 < x.length)) || decide (1024 < (dropE (zas s)).length))
theorem long_go (x3 all : List (List UInt8)) (hl : all.length ≤ 4294967296) :
    ∀ d i, i + d = all.length → Ev (fun k => script_long.l0 k (x3.map bs) (all.map bs) (all.length : Int) (i : Int)) ((all.drop i).any (fun x => decide (8192 < x.length)) || decide (1024 < x3.length)) := by
  intro d
  induction d with
  | zero =>
    intro i hi
    refine Ev.step (f := fun _ => some _) (fun k => ?_) (Ev.now _)
    rw [script_long.l0, if_neg (by omega), List.drop_of_length_le (by omega), List.length_map]
    simp
    omega
  | succ d ih =>
    intro i hi
    have hlt : i < all.length := by omega
    have hr : rdOf ByteArray.empty (all.map bs) (i : Int) = bs (all[i]'hlt) := by
      unfold rdOf; simp [hlt]
    have p1 : wrap64 ((i : Int) + 1) = ((i + 1 : Nat) : Int) := w64p 1 (by omega)
    rw [List.drop_eq_getElem_cons hlt, List.any_cons]
    by_cases h8 : 8192 < (all[i]'hlt).length
    · rw [decide_eq_true h8, Bool.true_or, Bool.true_or]
      refine Ev.step (f := fun _ => some _) (fun k => ?_) (Ev.now _)
      rw [script_long.l0, if_pos (by omega), if_pos (by omega), List.length_map, if_pos (by omega), hr, zao, if_pos (by omega)]
    · rw [decide_eq_false h8, Bool.false_or]
      refine Ev.step (f := fun k => script_long.l0 k (x3.map bs) (all.map bs) (all.length : Int) ((i + 1 : Nat) : Int)) (fun k => ?_) (ih (i + 1) (by omega))
      rw [script_long.l0, if_pos (by omega), if_pos (by omega), List.length_map, if_pos (by omega), hr, zao, if_neg (by omega), p1]
theorem long_j (all : List (List UInt8)) (hl : all.length ≤ 4294967296) : Ev (fun k => script_long.j0 k (all.map bs)) (all.any (fun x => decide (8192 < x.length)) || decide (1024 < all.length)) := by
  refine Ev.step (f := fun k => script_long.l0 k (all.map bs) (all.map bs) (all.length : Int) ((0 : Nat) : Int)) (fun k => ?_) (long_go all all hl all.length 0 (by omega))
  rw [script_long.j0, List.length_map]
  rfl
theorem long_is (s : List UInt8) : Ev (fun k => script_long.f k (bs s)) (longV s) := by
  unfold longV
  by_cases h6 : 65536 < s.length
  · rw [decide_eq_true h6, Bool.true_or]
    refine Ev.congr (f := fun _ => some true) (fun k => ?_) (Ev.now _)
    unfold script_long.f
    rw [zao, if_pos (by omega)]
  · have h : s.length < 4294967281 := by omega
    rw [decide_eq_false h6, Bool.false_or]
    have hp : 0 < (zas s).length := List.length_pos_iff.2 (splitNl_ne s)
    have hle := splitNl_len s
    have hw : wrap64 (((zas s).length : Int) - 1) = (((zas s).length - 1 : Nat) : Int) := by unfold wrap64; omega
    have hr : rdOf ByteArray.empty ((zas s).map bs) (((zas s).length - 1 : Nat) : Int) = bs ((zas s)[(zas s).length - 1]'(by omega)) := by
      unfold rdOf; simp
      rw [List.getElem?_eq_getElem (by omega)]; rfl
    have hg : (zas s).getLast? = some ((zas s)[(zas s).length - 1]'(by omega)) := by rw [List.getLast?_eq_getElem?, List.getElem?_eq_getElem]
    unfold dropE
    rw [hg]
    by_cases he : (zas s)[(zas s).length - 1]'(by omega) = []
    · rw [he, if_pos rfl]
      refine Ev.congr (f := fun k => script_long.j0 k ((zas s).dropLast.map bs)) (fun k => ?_) (long_j _ (by rw [List.length_dropLast]; omega))
      unfold script_long.f
      rw [zao, if_neg (by omega), split_is s h, Option.bind_some, List.length_map, hw, if_pos (by omega), if_pos (by omega), hr, he, if_pos (by rw [zbo]), if_pos (by omega), Int.toNat_natCast, ← List.map_take, List.dropLast_eq_take]
    · rw [if_neg (by simpa using he)]
      refine Ev.congr (f := fun k => script_long.j0 k ((zas s).map bs)) (fun k => ?_) (long_j _ (by omega))
      unfold script_long.f
      rw [zao, if_neg (by omega), split_is s h, Option.bind_some, List.length_map, hw, if_pos (by omega), if_pos (by omega), hr, if_neg (by rw [zbo]; exact he)]
/-- the commands of lines; none: a line is no command -/
def parseG : List (List UInt8) → Option (List S36)
  | [] => some []
  | x :: r => if x = [] ∨ x.head? = some 35 then parseG r else if (lineV x).2 = true then (parseG r).map ((lineV x).1 :: ·) else none
def parseR : Option (List S36) → List S36 × Int
  | some l => (l, 0)
  | none => ([], 110)
def parseV (s : List UInt8) : List S36 × Int := if longV s = true then ([], 3) else parseR (parseG (zas s))
theorem parse_go (all : List (List UInt8)) (hl : all.length ≤ 4294967296) (hx : ∀ x ∈ all, x.length < 4294967295) :
    ∀ d i (acc : List S36), i + d = all.length → acc.length ≤ i → Ev (fun k => script_Parse.l0 k acc (all.map bs) (all.length : Int) (i : Int)) (parseR ((parseG (all.drop i)).map (acc ++ ·))) := by
  intro d
  induction d with
  | zero =>
    intro i acc hi ha
    refine Ev.step (f := fun _ => some _) (fun k => ?_) (Ev.now _)
    rw [script_Parse.l0, if_neg (by omega), List.drop_of_length_le (by omega)]
    simp [parseG, parseR]
  | succ d ih =>
    intro i acc hi ha
    have hlt : i < all.length := by omega
    have hr : rdOf ByteArray.empty (all.map bs) (i : Int) = bs (all[i]'hlt) := by
      unfold rdOf; simp [hlt]
    have p1 : wrap64 ((i : Int) + 1) = ((i + 1 : Nat) : Int) := w64p 1 (by omega)
    have hm : (all[i]'hlt).length < 4294967295 := hx _ (List.getElem_mem hlt)
    have hn := ih (i + 1)
    rw [List.drop_eq_getElem_cons hlt]
    generalize all[i] = x at hr hm ⊢
    rw [parseG]
    have hskip : ∀ (b : Bool), b = true → Ev (fun k => script_Parse.j1 k acc (bs x) (all.map bs) (all.length : Int) (i : Int) b) (parseR ((parseG (all.drop (i + 1))).map (acc ++ ·))) := fun b hb => by
      refine Ev.step (f := fun k => script_Parse.l0 k acc (all.map bs) (all.length : Int) ((i + 1 : Nat) : Int)) (fun k => ?_) (hn acc (by omega) (by omega))
      rw [script_Parse.j1, if_pos hb, p1]
    by_cases he : x = []
    · rw [if_pos (.inl he)]
      refine Ev.step (f := fun k => script_Parse.j1 k acc (bs x) (all.map bs) (all.length : Int) (i : Int) true) (fun k => ?_) (hskip true rfl)
      rw [script_Parse.l0, if_pos (by omega), if_pos (by omega), List.length_map, if_pos (by omega), hr, if_pos (by rw [zbo]; exact he)]
    · have hp : 0 < x.length := List.length_pos_iff.2 he
      have hh : x.head? = some (x[0]'hp) := by rw [List.head?_eq_getElem?, List.getElem?_eq_getElem hp]
      have hb0 : bt (bs x) 0 = ((x[0]'hp).toNat : Int) := bt_bs x 0 hp
      have hstep : ∀ k, script_Parse.l0 (k + 1) acc (all.map bs) (all.length : Int) (i : Int) = script_Parse.j1 k acc (bs x) (all.map bs) (all.length : Int) (i : Int) (((x[0]'hp).toNat : Int) == 35) := fun k => by
        rw [script_Parse.l0, if_pos (by omega), if_pos (by omega), List.length_map, if_pos (by omega), hr, if_neg (by rw [zbo]; exact he), zao, if_pos (by omega), hb0]
      by_cases h35 : x[0]'hp = 35
      · rw [if_pos (.inr (by rw [hh, h35]))]
        exact Ev.step hstep (hskip _ (by rw [h35]; rfl))
      · have hne : ¬ (x = [] ∨ x.head? = some 35) := by rw [hh]; simp [he, h35]
        rw [if_neg hne]
        have hb : (((x[0]'hp).toNat : Int) == 35) = false := beq_eq_false_iff_ne.2 (fun e => h35 (UInt8.toNat_inj.1 (by simpa using (by omega : (x[0]'hp).toNat = 35))))
        refine Ev.step (f := fun k => script_Parse.j1 k acc (bs x) (all.map bs) (all.length : Int) (i : Int) false) (fun k => by rw [hstep, hb]) ?_
        have hcmd : script_command.f (bs x) = some ((lineV x).1.f0, (lineV x).1.f1, (lineV x).1.f2, (lineV x).1.f3.f0, (lineV x).1.f3.f1, (lineV x).1.f3.f2, (lineV x).1.f3.f3, (lineV x).1.f3.f4, (lineV x).1.f3.f5, (lineV x).1.f3.f6, (lineV x).1.f3.f7, (lineV x).1.f4, (lineV x).2) := by
          unfold script_command.f
          rw [zao, if_pos hm, zbc]
        by_cases hok : (lineV x).2 = true
        · rw [if_pos hok, Option.map_map]
          refine Ev.step (f := fun k => script_Parse.l0 k (acc ++ [(lineV x).1]) (all.map bs) (all.length : Int) ((i + 1 : Nat) : Int)) (fun k => ?_) ?_
          · rw [script_Parse.j1, if_neg (by simp), hcmd, Option.bind_some, if_pos hok, if_pos (by omega), p1]
          · have := hn (acc ++ [(lineV x).1]) (by omega) (by simp; omega)
            refine cast ?_ this
            congr 3
            funext l
            simp
        · rw [if_neg hok]
          refine Ev.step (f := fun _ => some _) (fun k => ?_) (Ev.now _)
          rw [script_Parse.j1, if_neg (by simp), hcmd, Option.bind_some, if_neg hok]
          rfl
theorem longV_len {s : List UInt8} (h : ¬ longV s = true) : s.length ≤ 65536 := by
  apply Nat.le_of_not_lt
  intro hl
  exact h (by unfold longV; rw [decide_eq_true hl, Bool.true_or])
theorem parse_ev (s : List UInt8) : Ev (fun k => script_Parse.f k (bs s)) (parseV s) := by
  unfold script_Parse.f parseV
  refine Ev.bind (long_is s) ?_
  by_cases hl : longV s = true
  · rw [if_pos hl]
    exact Ev.congr (fun k => if_pos hl) (Ev.now _)
  · have h : s.length < 4294967281 := by have := longV_len hl; omega
    rw [if_neg hl]
    have hle := splitNl_len s
    have hg := parse_go (zas s) (by omega) (fun x hx => by have := splitNl_mem s x hx; omega) (zas s).length 0 [] (by omega) (by simp)
    refine Ev.congr (f := fun k => script_Parse.l0 k ([] : List S36) ((zas s).map bs) ((zas s).length : Int) ((0 : Nat) : Int)) (fun k => ?_) ?_
    · rw [if_neg hl, split_is s h, Option.bind_some, List.length_map]; rfl
    · rw [List.drop_zero] at hg
      simpa using hg
theorem parse_is (s : List UInt8) : ∃ k, script_Parse.f k (bs s) = some (parseV s) := Ev.rounds (parse_ev s)
end Go.Proofs.YtdmlgligljagoaaDoor

namespace Go.Proofs.YtdmlgligljagoaaDoor.PS
open Go.RowKit Go.Proofs.YtdmlgligljagoaaDoorW.PrintWords Go.Proofs.YtdmlgligljagoaaDoorW.PrintLast Go.Proofs.YtdmlgligljagoaaDoorW.PrintMore
attribute [local go_sem] zbg zbh max_two min_two zbe zbf zbi zbj   -- for this text's walks alone
set_option linter.unusedVariables false
set_option linter.unusedSimpArgs false

/-! ### script_Quote: function 13 -/
mutual
def script_Quote.l0 : Nat → ByteArray → List Int → Int → Int → Option (ByteArray)
 | 0, _, _, _, _ => none
 | k + 1, x0, x3, x8, x9 => if x9 < x8 then (if 0 ≤ x9 then (if x9 < (x0.size : Int) then (if (bt x0 x9) = 34 then (script_Quote.j1 k x0 x3 (bt x0 x9) x8 x9 true) else (script_Quote.j1 k x0 x3 (bt x0 x9) x8 x9 ((bt x0 x9) == 92))) else (none)) else (none)) else (if x3.length < 140737488355328 then (some (strOfNums (x3 ++ [34]))) else (none))
def script_Quote.j1 : Nat → ByteArray → List Int → Int → Int → Int → Bool → Option (ByteArray)
 | 0, _, _, _, _, _, _ => none
 | k + 1, x0, x3, x5, x8, x9, x19 => if x19 = true then ((some (([92, x5] : List Int) : List Int)).bind fun y146 => (if x3.length + y146.length < 140737488355328 then (script_Quote.l0 k x0 (x3 ++ y146) x8 (wrap64 (x9 + 1))) else (none))) else (if x5 < 32 then (if 0 ≤ (x5 / 16) then (if (x5 / 16) < 16 then (if 0 ≤ (Go.bits .and .u8 x5 15) then (if (Go.bits .and .u8 x5 15) < 16 then ((some (([92, 120, bt (⟨#[48, 49, 50, 51, 52, 53, 54, 55, 56, 57, 97, 98, 99, 100, 101, 102]⟩ : ByteArray) (x5 / 16), bt (⟨#[48, 49, 50, 51, 52, 53, 54, 55, 56, 57, 97, 98, 99, 100, 101, 102]⟩ : ByteArray) (Go.bits .and .u8 x5 15)] : List Int) : List Int)).bind fun y152 => (if x3.length + y152.length < 140737488355328 then (script_Quote.l0 k x0 (x3 ++ y152) x8 (wrap64 (x9 + 1))) else (none))) else (none)) else (none)) else (none)) else (none)) else (if x5 > 126 then (if 0 ≤ (x5 / 16) then (if (x5 / 16) < 16 then (if 0 ≤ (Go.bits .and .u8 x5 15) then (if (Go.bits .and .u8 x5 15) < 16 then ((some (([92, 120, bt (⟨#[48, 49, 50, 51, 52, 53, 54, 55, 56, 57, 97, 98, 99, 100, 101, 102]⟩ : ByteArray) (x5 / 16), bt (⟨#[48, 49, 50, 51, 52, 53, 54, 55, 56, 57, 97, 98, 99, 100, 101, 102]⟩ : ByteArray) (Go.bits .and .u8 x5 15)] : List Int) : List Int)).bind fun y158 => (if x3.length + y158.length < 140737488355328 then (script_Quote.l0 k x0 (x3 ++ y158) x8 (wrap64 (x9 + 1))) else (none))) else (none)) else (none)) else (none)) else (none)) else (if x3.length < 140737488355328 then (script_Quote.l0 k x0 (x3 ++ [x5]) x8 (wrap64 (x9 + 1))) else (none))))
end
def script_Quote.f (k : Nat) (a0 : ByteArray) : Option (ByteArray) := script_Quote.l0 k a0 (([34] : List Int)) (a0.size : Int) 0
def script_Quote.T10 : Bool × List (List Nat × List Nat) := (true, [([], []), ([], []), ([1], [1]), ([2], [2]), ([], []), ([4], [4]), ([5], [5]), ([3, 6], [3, 6]), ([0, 7], [0, 7]), ([8, 8, 0, 1, 2, 3, 4, 5, 6, 7, 8], [0, 8])])
def script_Quote.B10 : List Nat := [0, 0, 2, 6, 0, 16, 48, 126, 255, 511]
theorem script_Quote.tab10 : rtab .any (opsOf Tryd.f13 10) = script_Quote.T10 := by kernel_rfl
theorem script_Quote.bits10 : waitsOk script_Quote.T10.2 script_Quote.B10 = true := by kernel_rfl
set_option maxHeartbeats 8000000 in
set_option maxRecDepth 100000 in
theorem script_Quote.calls (k : Nat) (a0 : ByteArray) (r : ByteArray) (w : World) (h : script_Quote.f k a0 = some r) :
  Calls Tryd.prog 13 #[.string a0] w fun e w' => e = .returned (.string r) ∧ Below w.heap.size w w' := by
 have HB := Aside0.mk (Below.refl w.heap.size w)
 have H : (script_Quote.l0 k a0 (([34] : List Int)) (a0.size : Int) 0) = some r := h
 clear h
 obtain ⟨y140, hy140⟩ : ∃ y_ : List Int, y_ = (([34] : List Int)) := ⟨_, rfl⟩
 replace H : (script_Quote.l0 k a0 y140 (a0.size : Int) 0) = some r := by first | (rw [hy140]; with_reducible exact H) | (have H2_ := (Option.bind_some _ _).symm.trans H; rw [hy140]; with_reducible exact H2_) | (have H2_ := (Option.bind_some _ _).symm.trans H; with_reducible exact H2_) | with_reducible exact H | (rw [hy140]; exact H) | exact H
 have Ny140 := Aside0.mk hy140
 clear hy140
 have H' := Aside0.mk H
 clear H
 go_enter Tryd.func13, Tryd.ntmps13
 go_wp2_with (first | ((with_reducible refine zbm (N := 6) rfl ?_); refine Kd.R_lit (Kd.int .u8) _ 5 ?hg (N := 6) ?hd (xs := ([34] : List Int)) (inner := [.int .u8 34]) (ok := fun _ => True) (okp := fun _ => True) ?hr ?hp (fun _ hk => hk) trivial (Below.refl _ _) (Nat.le_refl _) (by simp) ?_; (case hd => rfl); (case hg => rfl); (case hr => first | (go_simp; done) | (go_simp; rfl)); (case hp => exact (Reps.one (show Kd.M (Kd.int .u8) _ _ _ 34 [.int .u8 34] from rfl) (Reps.none _ _))); intro v141 w2 ho3 hb hg_ hnew_; clear hg_ hnew_; (first | rw [← Ny140.out] at ho3 | (simp only [Int.reduceToNat] at ho3; rw [← Ny140.out] at ho3)); have n0_ := Aside0.mk (Kd.R_lower ho3 (zal (by repeat with_reducible first | exact HB.out | apply zae | apply zac | apply zad))); have n1_ := Aside0.mk (zap (by repeat with_reducible first | exact HB.out | apply zae | apply zac | apply zad) hb); clear HB; have HO142 := n0_; have HB := n1_; clear n0_ n1_; clear hb ho3))
 go_loopg [3, 9] k (fun kq v3 v9 w' => ∃ (x3_1 : List Int) (x9_1 : Int), v9 = .int .i64 x9_1 ∧ Aside0 (script_Quote.l0 kq a0 x3_1 (a0.size : Int) x9_1 = some r) ∧ Aside0 (kq ≤ k) ∧ Aside0 (Kd.R (Kd.int .u8) 5 w' w.heap.size (fun _ => True) v3 x3_1) ∧ Aside0 (Below w.heap.size w w'))
 case atStart => exact ⟨(y140), (0), (by first | rfl | (simp; done) | (simp [*]; done)), H', ⟨Nat.le_refl _⟩, ⟨by (with_reducible repeat (first | apply Kd.R_alloc | apply Kd.R_drewN | apply Kd.R_drew)); exact HO142.out⟩, ⟨by repeat with_reducible first | exact HB.out | apply zae | apply zac | apply zad⟩⟩
 case round =>
  clear H'
  try clear c1
  try clear p2
  obtain ⟨x3_1, x9_1, rfl, HA, HK1, HO_3, HB⟩ := hrel
  cases gk with
  | zero => exact absurd HA.out (by simp [script_Quote.l0])
  | succ k1 =>
   have H := HA.out
   clear HA
   simp only [script_Quote.l0] at H
   by_cases c4 : x9_1 < (a0.size : Int)
   rotate_left
   ·
    rw [if_neg c4] at H
    have c4b0 : decide (x9_1 < (a0.size : Int)) = false := decide_eq_false c4
    clear c4
    by_cases c46 : x3_1.length < 140737488355328
    rotate_left
    ·
     rw [if_neg c46] at H
     exact absurd H (by simp)
    rw [if_pos c46] at H
    have LMc46 := Aside0.mk c46
    clear c46
    obtain ⟨y143, hy143⟩ : ∃ y_ : List Int, y_ = (x3_1 ++ [34]) := ⟨_, rfl⟩
    replace H : (some (strOfNums y143)) = some r := by first | (rw [hy143]; with_reducible exact H) | (have H2_ := (Option.bind_some _ _).symm.trans H; rw [hy143]; with_reducible exact H2_) | (have H2_ := (Option.bind_some _ _).symm.trans H; with_reducible exact H2_) | with_reducible exact H | (rw [hy143]; exact H) | exact H
    have Ny143 := Aside0.mk hy143
    clear hy143
    obtain rfl := Option.some.inj H
    go_wp2_with (first | ((with_reducible refine zax (b := .append) (xs := #[.tmp 47, .tmp 48]) rfl ?_); at_builtin; refine Kd.R_append (Kd.int .u8) (w0 := w) w.heap.size rfl (.tmp 47) (.tmp 48) 49 5 (.int .u8 0) 1 rfl Tryd.underlying49 info5 rfl (by decide) (by omega) u3 x3_1 34 [.int .u8 34] (fun _ => True) (fun _ => False) rfl rfl ?aP (fun _ hk => hk.elim) ?aF ?aO ?aB ?aS ?aL ?_; (case aP => exact rfl); (case aB => exact (by repeat with_reducible first | exact HB.out | apply zae | apply zac | apply zad)); (case aF => exact (fun _ _ => trivial)); (case aO => exact (by (with_reducible repeat (first | apply Kd.R_alloc | apply Kd.R_drewN | apply Kd.R_drew)); exact HO_3.out)); (case aS => exact (zal (by repeat with_reducible first | exact HB.out | apply zae | apply zac | apply zad))); (case aL => have := LMc46.out; omega); intro v144 w47 ho hb hg hat; rw [← Ny143.out] at ho; have n0_ := Aside0.mk (hb); have n1_ := Aside0.mk (ho); clear HB; clear HO_3; have HB := n0_; have HO145 := n1_; clear n0_ n1_; clear ho hb hg hat; have hcv48 := own_string (P := Tryd.prog) Tryd.underlying49 Tryd.underlying5 Tryd.underlying9 (Kd.own_of_R HO145.out)))
    go_ret
    exact ⟨by first | rfl | (simp [zam, zan] <;> rfl) | (simp [*, zam, zan] <;> rfl), by repeat with_reducible first | exact HB.out | apply zae | apply zac | apply zad⟩
   rw [if_pos c4] at H
   have c4b0 : decide (x9_1 < (a0.size : Int)) = true := decide_eq_true c4
   clear c4
   by_cases c5 : 0 ≤ x9_1
   rotate_left
   ·
    rw [if_neg c5] at H
    exact absurd H (by simp)
   rw [if_pos c5] at H
   have c5b0 : decide (0 ≤ x9_1) = true := decide_eq_true c5
   clear c5
   by_cases c6 : x9_1 < (a0.size : Int)
   rotate_left
   ·
    rw [if_neg c6] at H
    exact absurd H (by simp)
   rw [if_pos c6] at H
   have c6b0 : decide (x9_1 < (a0.size : Int)) = true := decide_eq_true c6
   clear c6
   have HC8 := Aside0.mk H
   clear H
   have p7 : 0 ≤ (x9_1 : Int) := of_decide_eq_true (by first | (with_reducible assumption) | assumption)
   have q7 : x9_1 < (a0.size : Int) := of_decide_eq_true (by first | (with_reducible assumption) | assumption)
   have hx7 := bt_at a0 x9_1
   replace p7 := eq_true p7
   replace q7 := eq_true q7
   go_upto_region 7 with (fail)
   go_cut [19] (fun v19 wc => ∃ (kq : Nat) (x19_7 : Bool), v19 = .bool x19_7 ∧ Aside0 (script_Quote.j1 kq a0 x3_1 (bt a0 x9_1) (a0.size : Int) x9_1 x19_7 = some r) ∧ Aside0 (kq ≤ k1) ∧ Aside0 (Kd.R (Kd.int .u8) 5 wc w.heap.size (fun _ => True) u3 x3_1) ∧ Aside0 (Below w.heap.size w wc))
   case first =>
    have H := HC8.out
    clear HC8
    by_cases c9 : (bt a0 x9_1) = 34
    ·
     rw [if_pos c9] at H
     have c9b0 : ((bt a0 x9_1) == 34) = true := beq_iff_eq.mpr c9
     have c9b1 : ((bt a0 x9_1) != 34) = false := bne_eq_false_iff_eq.mpr c9
     clear c9
     (first | rw [c9b0] | (simp only [i64_w, i32_w]; rw [c9b0]) | rw [c9b2] | skip)
     have H' := Aside0.mk H
     clear H
     go_wp2
     go_meet
     case rel => exact ⟨_, (true), (by first | rfl | (simp; done) | (simp [*]; done)), H', ⟨by have := HK1.out; first | omega | exact Nat.le_refl _⟩, ⟨by (with_reducible repeat (first | apply Kd.R_alloc | apply Kd.R_drewN | apply Kd.R_drew)); exact HO_3.out⟩, ⟨by repeat with_reducible first | exact HB.out | apply zae | apply zac | apply zad⟩⟩
    rw [if_neg c9] at H
    have c9b0 : ((bt a0 x9_1) == 34) = false := beq_eq_false_iff_ne.mpr c9
    have c9b1 : ((bt a0 x9_1) != 34) = true := bne_iff_ne.mpr c9
    (first | rw [c9b0] | (simp only [i64_w, i32_w]; rw [c9b0]) | rw [c9b2] | skip)
    have H' := Aside0.mk H
    clear H
    go_wp2
    go_meet
    case rel => exact ⟨_, (((bt a0 x9_1) == 92)), (by first | rfl | (simp; done) | (simp [*]; done)), H', ⟨by have := HK1.out; first | omega | exact Nat.le_refl _⟩, ⟨by (with_reducible repeat (first | apply Kd.R_alloc | apply Kd.R_drewN | apply Kd.R_drew)); exact HO_3.out⟩, ⟨by repeat with_reducible first | exact HB.out | apply zae | apply zac | apply zad⟩⟩
   case rest =>
    clear HC8
    try clear c1
    try clear p2
    try clear c4
    try clear c4b0
    try clear c5
    try clear c5b0
    try clear c6
    try clear c6b0
    try clear p7
    try clear q7
    try clear hx7
    try clear c9
    try clear c9b0
    try clear c9b1
    try clear c9b2
    try clear p2
    try clear p7
    try clear q7
    obtain ⟨kq, x19_7, rfl, HA, HJ7, HO_3, HB⟩ := hcut
    cases kq with
    | zero => exact absurd HA.out (by simp [script_Quote.j1])
    | succ kj7 =>
     have H := HA.out
     clear HA
     simp only [script_Quote.j1] at H
     by_cases c10 : x19_7 = true
     ·
      subst c10
      have H1 : ((some (([92, (bt a0 x9_1)] : List Int) : List Int)).bind fun y146 => (if x3_1.length + y146.length < 140737488355328 then (script_Quote.l0 kj7 a0 (x3_1 ++ y146) (a0.size : Int) (wrap64 (x9_1 + 1))) else (none))) = some r := by rw [if_pos rfl] at H; exact H
      clear H
      have H := H1
      clear H1
      obtain ⟨y146, hy146⟩ : ∃ y_ : List Int, y_ = (([92, (bt a0 x9_1)] : List Int)) := ⟨_, rfl⟩
      replace H : (if x3_1.length + y146.length < 140737488355328 then (script_Quote.l0 kj7 a0 (x3_1 ++ y146) (a0.size : Int) (wrap64 (x9_1 + 1))) else (none)) = some r := by first | (rw [hy146]; with_reducible exact H) | (have H2_ := (Option.bind_some _ _).symm.trans H; rw [hy146]; with_reducible exact H2_) | (have H2_ := (Option.bind_some _ _).symm.trans H; with_reducible exact H2_) | with_reducible exact H | (rw [hy146]; exact H) | exact H
      have Ny146 := Aside0.mk hy146
      clear hy146
      by_cases c11 : x3_1.length + y146.length < 140737488355328
      rotate_left
      ·
       rw [if_neg c11] at H
       exact absurd H (by simp)
      rw [if_pos c11] at H
      have LMc11 := Aside0.mk c11
      clear c11
      obtain ⟨y149, hy149⟩ : ∃ y_ : List Int, y_ = (x3_1 ++ y146) := ⟨_, rfl⟩
      replace H : (script_Quote.l0 kj7 a0 y149 (a0.size : Int) (wrap64 (x9_1 + 1))) = some r := by first | (rw [hy149]; with_reducible exact H) | (have H2_ := (Option.bind_some _ _).symm.trans H; rw [hy149]; with_reducible exact H2_) | (have H2_ := (Option.bind_some _ _).symm.trans H; with_reducible exact H2_) | with_reducible exact H | (rw [hy149]; exact H) | exact H
      have Ny149 := Aside0.mk hy149
      clear hy149
      have H' := Aside0.mk H
      clear H
      go_wp2_with (first | ((with_reducible refine zbm (N := 28) rfl ?_); refine Kd.R_lit (Kd.int .u8) _ 5 ?hg (N := 28) ?hd (xs := ([92, (bt a0 x9_1)] : List Int)) (inner := [.int .u8 92, .int .u8 (bt a0 x9_1)]) (ok := fun _ => True) (okp := fun _ => True) ?hr ?hp (fun _ hk => hk) trivial (Below.refl _ _) (Nat.le_refl _) (by simp) ?_; (case hd => rfl); (case hg => rfl); (case hr => first | (go_simp; done) | (go_simp; rfl)); (case hp => exact (Reps.one (show Kd.M (Kd.int .u8) _ _ _ 92 [.int .u8 92] from rfl) (Reps.one (show Kd.M (Kd.int .u8) _ _ _ (bt a0 x9_1) [.int .u8 (bt a0 x9_1)] from rfl) (Reps.none _ _)))); intro v147 w12 ho13 hb hg_ hnew_; clear hg_ hnew_; (first | rw [← Ny146.out] at ho13 | (simp only [Int.reduceToNat] at ho13; rw [← Ny146.out] at ho13)); have n0_ := Aside0.mk (Kd.R_elder' (by (with_reducible repeat (first | apply Kd.R_alloc | apply Kd.R_drewN | apply Kd.R_drew)); exact HO_3.out) (Kd.R_base ho13) hb); have n1_ := Aside0.mk (Kd.R_lower (Kd.R_new' ho13 (Kd.R_lt (by (with_reducible repeat (first | apply Kd.R_alloc | apply Kd.R_drewN | apply Kd.R_drew)); exact HO_3.out))) (zal (by repeat with_reducible first | exact HB.out | apply zae | apply zac | apply zad))); have n2_ := Aside0.mk (zap (by repeat with_reducible first | exact HB.out | apply zae | apply zac | apply zad) hb); clear HO_3; clear HB; have HO_3 := n0_; have HO148 := n1_; have HB := n2_; clear n0_ n1_ n2_; clear hb ho13; obtain ⟨Ao15, co15, eo15⟩ := Kd.R_slice HO148.out; subst eo15) | ((with_reducible refine zax (b := .append) (xs := #[.tmp 26, .tmp 28]) rfl ?_); at_builtin; refine Kd.R_append_rows (Kd.int .u8) (w0 := w) w.heap.size rfl (.tmp 26) (.tmp 28) 49 5 (.int .u8 0) 1 rfl Tryd.underlying49 info5 rfl (by decide) (by omega) u3 x3_1 y146 _ _ _ (fun k_ => some k_ ≠ (.slice Ao15 y146.length co15 : Value).ownBlock) (fun _ => False) rfl rfl ?aO ?aR (fun _ _ h => h) (fun _ h => h.elim) ?aF ?aB ?aS ?aL ?_; (case aR => repeat (first | exact (Kd.R_reads' HO148.out).2.2 | (with_reducible refine Kd.C_alloc ?_ _) | (with_reducible refine Kd.C_drewN ?_ _) | (with_reducible refine Kd.C_drew ?_))); (case aB => exact (by repeat with_reducible first | exact HB.out | apply zae | apply zac | apply zad)); (case aF => exact (fun k_ hk => Kd.fresh' (Kd.R_lt (by (with_reducible repeat (first | apply Kd.R_alloc | apply Kd.R_drewN | apply Kd.R_drew)); exact HO148.out)) k_ hk)); (case aO => exact (by (with_reducible repeat (first | apply Kd.R_alloc | apply Kd.R_drewN | apply Kd.R_drew)); exact Kd.R_mono HO_3.out (fun _ hk => hk.2))); (case aS => exact (zal (by repeat with_reducible first | exact HB.out | apply zae | apply zac | apply zad))); (case aL => have := LMc11.out; omega); intro v150 w14 ho hb hg hat; rw [← Ny149.out] at ho; have n0_ := Aside0.mk (Kd.R_after (ok := (fun _ => True)) (by (with_reducible repeat (first | apply Kd.R_alloc | apply Kd.R_drewN | apply Kd.R_drew)); exact HO148.out) hg hat); have n1_ := Aside0.mk (hb); have n2_ := Aside0.mk (ho); clear HO148; clear HB; clear HO_3; have HO148 := n0_; have HB := n1_; have HO151 := n2_; clear n0_ n1_ n2_; clear ho hb hg hat))
      go_roundg kj7
      case measure => have := HK1.out; have := HJ7.out; omega
      case rel => exact ⟨(y149), (wrap64 (x9_1 + 1)), (by first | rfl | (simp; done) | (simp [*]; done)), H', ⟨by have := HK1.out; have := HJ7.out; omega⟩, ⟨by (with_reducible repeat (first | apply Kd.R_alloc | apply Kd.R_drewN | apply Kd.R_drew)); exact Kd.R_mono HO151.out (fun _ hk => trivial)⟩, ⟨by repeat with_reducible first | exact HB.out | apply zae | apply zac | apply zad⟩⟩
     replace c10 := Bool.eq_false_iff.mpr c10
     subst c10
     have H1 : (if (bt a0 x9_1) < 32 then (if 0 ≤ ((bt a0 x9_1) / 16) then (if ((bt a0 x9_1) / 16) < 16 then (if 0 ≤ (Go.bits .and .u8 (bt a0 x9_1) 15) then (if (Go.bits .and .u8 (bt a0 x9_1) 15) < 16 then ((some (([92, 120, bt (⟨#[48, 49, 50, 51, 52, 53, 54, 55, 56, 57, 97, 98, 99, 100, 101, 102]⟩ : ByteArray) ((bt a0 x9_1) / 16), bt (⟨#[48, 49, 50, 51, 52, 53, 54, 55, 56, 57, 97, 98, 99, 100, 101, 102]⟩ : ByteArray) (Go.bits .and .u8 (bt a0 x9_1) 15)] : List Int) : List Int)).bind fun y152 => (if x3_1.length + y152.length < 140737488355328 then (script_Quote.l0 kj7 a0 (x3_1 ++ y152) (a0.size : Int) (wrap64 (x9_1 + 1))) else (none))) else (none)) else (none)) else (none)) else (none)) else (if (bt a0 x9_1) > 126 then (if 0 ≤ ((bt a0 x9_1) / 16) then (if ((bt a0 x9_1) / 16) < 16 then (if 0 ≤ (Go.bits .and .u8 (bt a0 x9_1) 15) then (if (Go.bits .and .u8 (bt a0 x9_1) 15) < 16 then ((some (([92, 120, bt (⟨#[48, 49, 50, 51, 52, 53, 54, 55, 56, 57, 97, 98, 99, 100, 101, 102]⟩ : ByteArray) ((bt a0 x9_1) / 16), bt (⟨#[48, 49, 50, 51, 52, 53, 54, 55, 56, 57, 97, 98, 99, 100, 101, 102]⟩ : ByteArray) (Go.bits .and .u8 (bt a0 x9_1) 15)] : List Int) : List Int)).bind fun y158 => (if x3_1.length + y158.length < 140737488355328 then (script_Quote.l0 kj7 a0 (x3_1 ++ y158) (a0.size : Int) (wrap64 (x9_1 + 1))) else (none))) else (none)) else (none)) else (none)) else (none)) else (if x3_1.length < 140737488355328 then (script_Quote.l0 kj7 a0 (x3_1 ++ [(bt a0 x9_1)]) (a0.size : Int) (wrap64 (x9_1 + 1))) else (none)))) = some r := by rw [if_neg (show ¬ (false = true) by decide)] at H; exact H
     clear H
     have H := H1
     clear H1
     by_cases c16 : (bt a0 x9_1) < 32
     ·
      rw [if_pos c16] at H
      have c16b0 : decide ((bt a0 x9_1) < 32) = true := decide_eq_true c16
      clear c16
      obtain ⟨ji17, hji17⟩ : ∃ j_ : Int, ((bt a0 x9_1) / 16) = j_ := ⟨_, rfl⟩
      replace H : (if 0 ≤ (ji17) then (if (ji17) < 16 then (if 0 ≤ (Go.bits .and .u8 (bt a0 x9_1) 15) then (if (Go.bits .and .u8 (bt a0 x9_1) 15) < 16 then ((some (([92, 120, bt (⟨#[48, 49, 50, 51, 52, 53, 54, 55, 56, 57, 97, 98, 99, 100, 101, 102]⟩ : ByteArray) (ji17), bt (⟨#[48, 49, 50, 51, 52, 53, 54, 55, 56, 57, 97, 98, 99, 100, 101, 102]⟩ : ByteArray) (Go.bits .and .u8 (bt a0 x9_1) 15)] : List Int) : List Int)).bind fun y152 => (if x3_1.length + y152.length < 140737488355328 then (script_Quote.l0 kj7 a0 (x3_1 ++ y152) (a0.size : Int) (wrap64 (x9_1 + 1))) else (none))) else (none)) else (none)) else (none)) else (none)) = some r := by first | (rw [hji17] at H; exact H) | (simp only [hji17] at H ⊢; exact H)
      by_cases c18 : 0 ≤ (ji17)
      rotate_left
      ·
       rw [if_neg c18] at H
       exact absurd H (by simp)
      rw [if_pos c18] at H
      have c18b0 : decide (0 ≤ (ji17)) = true := decide_eq_true c18
      clear c18
      by_cases c19 : (ji17) < 16
      rotate_left
      ·
       rw [if_neg c19] at H
       exact absurd H (by simp)
      rw [if_pos c19] at H
      have c19b0 : decide ((ji17) < 16) = true := decide_eq_true c19
      clear c19
      by_cases c21 : 0 ≤ (Go.bits .and .u8 (bt a0 x9_1) 15)
      rotate_left
      ·
       rw [if_neg c21] at H
       exact absurd H (by simp)
      rw [if_pos c21] at H
      have c21b0 : decide (0 ≤ (Go.bits .and .u8 (bt a0 x9_1) 15)) = true := decide_eq_true c21
      clear c21
      by_cases c22 : (Go.bits .and .u8 (bt a0 x9_1) 15) < 16
      rotate_left
      ·
       rw [if_neg c22] at H
       exact absurd H (by simp)
      rw [if_pos c22] at H
      have c22b0 : decide ((Go.bits .and .u8 (bt a0 x9_1) 15) < 16) = true := decide_eq_true c22
      clear c22
      obtain ⟨y152, hy152⟩ : ∃ y_ : List Int, y_ = (([92, 120, bt (⟨#[48, 49, 50, 51, 52, 53, 54, 55, 56, 57, 97, 98, 99, 100, 101, 102]⟩ : ByteArray) (ji17), bt (⟨#[48, 49, 50, 51, 52, 53, 54, 55, 56, 57, 97, 98, 99, 100, 101, 102]⟩ : ByteArray) (Go.bits .and .u8 (bt a0 x9_1) 15)] : List Int)) := ⟨_, rfl⟩
      replace H : (if x3_1.length + y152.length < 140737488355328 then (script_Quote.l0 kj7 a0 (x3_1 ++ y152) (a0.size : Int) (wrap64 (x9_1 + 1))) else (none)) = some r := by first | (rw [hy152]; with_reducible exact H) | (have H2_ := (Option.bind_some _ _).symm.trans H; rw [hy152]; with_reducible exact H2_) | (have H2_ := (Option.bind_some _ _).symm.trans H; with_reducible exact H2_) | with_reducible exact H | (rw [hy152]; exact H) | exact H
      have Ny152 := Aside0.mk hy152
      clear hy152
      by_cases c24 : x3_1.length + y152.length < 140737488355328
      rotate_left
      ·
       rw [if_neg c24] at H
       exact absurd H (by simp)
      rw [if_pos c24] at H
      have LMc24 := Aside0.mk c24
      clear c24
      obtain ⟨y155, hy155⟩ : ∃ y_ : List Int, y_ = (x3_1 ++ y152) := ⟨_, rfl⟩
      replace H : (script_Quote.l0 kj7 a0 y155 (a0.size : Int) (wrap64 (x9_1 + 1))) = some r := by first | (rw [hy155]; with_reducible exact H) | (have H2_ := (Option.bind_some _ _).symm.trans H; rw [hy155]; with_reducible exact H2_) | (have H2_ := (Option.bind_some _ _).symm.trans H; with_reducible exact H2_) | with_reducible exact H | (rw [hy155]; exact H) | exact H
      have Ny155 := Aside0.mk hy155
      clear hy155
      have H' := Aside0.mk H
      clear H
      try go_wp2
      have n0_ := Aside0.mk (Kd.R_drew HO_3.out)
      have n1_ := Aside0.mk (zad HB.out)
      clear HO_3
      clear HB
      have HO_3 := n0_
      have HB := n1_
      clear n0_ n1_
      have p20 : 0 ≤ ((ji17) : Int) := of_decide_eq_true (by first | (with_reducible assumption) | assumption)
      have q20 : (ji17) < (16 : Int) := of_decide_eq_true (by first | (with_reducible assumption) | assumption)
      have hx20 := bt_at (⟨#[48, 49, 50, 51, 52, 53, 54, 55, 56, 57, 97, 98, 99, 100, 101, 102]⟩ : ByteArray) (ji17)
      replace p20 := eq_true p20
      replace q20 := eq_true q20
      have p23 : 0 ≤ ((Go.bits .and .u8 (bt a0 x9_1) 15) : Int) := of_decide_eq_true (by first | (with_reducible assumption) | assumption)
      have q23 : (Go.bits .and .u8 (bt a0 x9_1) 15) < (16 : Int) := of_decide_eq_true (by first | (with_reducible assumption) | assumption)
      have hx23 := bt_at (⟨#[48, 49, 50, 51, 52, 53, 54, 55, 56, 57, 97, 98, 99, 100, 101, 102]⟩ : ByteArray) (Go.bits .and .u8 (bt a0 x9_1) 15)
      replace p23 := eq_true p23
      replace q23 := eq_true q23
      refine start_ (n := 10) (S := fun w' => True) (ds := []) #[false, false, false, false, false, false, false, false, false, false] (by kernel_rfl) rfl rfl trivial (fun hHeld => ?_); refine zbp script_Quote.tab10 script_Quote.bits10 (fun HT_ HW_ => ?_)
      generalize wc.drew = w25 at HO_3 HB hHeld ⊢
      refine pure_ (i := 0) (N := some 37) (v := ?_) (a' := ?_) (tm 10 1) rfl rfl (zak HT_.out (by kernel_rfl)) (fun _ _ _ h => h) (Or.inl ⟨by rfl, ?_⟩) ?_ ?_
      rotate_left
      ·
       intro w'
       go_simp
       with_reducible rfl
      rotate_left
      ·
       simp only [aw]
       rfl
      refine pure_ (i := 1) (N := some 38) (v := ?_) (a' := ?_) (tm 10 3) rfl rfl (zak HT_.out (by kernel_rfl)) (fun _ _ _ h => h) (Or.inl ⟨by rfl, ?_⟩) ?_ ?_
      rotate_left
      ·
       intro w'
       go_simp
       with_reducible rfl
      rotate_left
      ·
       simp only [aw]
       rfl
      refine pure_ (i := 2) (N := some 39) (v := ?_) (a' := ?_) (tm 10 7) rfl rfl (zak HT_.out (by kernel_rfl)) (fun _ _ _ h => h) (Or.inl ⟨by rfl, ?_⟩) ?_ ?_
      rotate_left
      ·
       intro w'
       go_simp
       with_reducible rfl
      rotate_left
      ·
       simp only [aw]
       rfl
      refine pure_ (i := 4) (N := some 41) (v := ?_) (a' := ?_) (tm 10 23) rfl rfl (zak HT_.out (by kernel_rfl)) (fun _ _ _ h => h) (Or.inl ⟨by rfl, ?_⟩) ?_ ?_
      rotate_left
      ·
       intro w'
       go_simp
       with_reducible rfl
      rotate_left
      ·
       simp only [aw]
       rfl
      refine pure_ (i := 5) (N := some 42) (v := ?_) (a' := ?_) (tm 10 55) rfl rfl (zak HT_.out (by kernel_rfl)) (fun _ _ _ h => h) (Or.inl ⟨by rfl, ?_⟩) ?_ ?_
      rotate_left
      ·
       intro w'
       go_simp
       with_reducible rfl
      rotate_left
      ·
       simp only [aw]
       rfl
      refine take_ (i := 3) (N := some 40) (v := ?_) (a' := ?_) #[true, true, true, true, true, true, false, false, false, false] rfl rfl (zat HT_.out HW_.out (by kernel_rfl)) (fun _ _ _ h => h) (Or.inl ⟨by rfl, ?_⟩) hHeld ?_ ?_
      rotate_left
      ·
       intro w' _
       go_simp
       with_reducible rfl
      rotate_left
      ·
       simp only [aw]
       rfl
      refine take_ (i := 6) (N := some 43) (v := ?_) (a' := ?_) #[true, true, true, true, true, true, true, false, false, false] rfl rfl (zat HT_.out HW_.out (by kernel_rfl)) (fun _ _ _ h => h) (Or.inl ⟨by rfl, ?_⟩) hHeld ?_ ?_
      rotate_left
      ·
       intro w' _
       go_simp
       with_reducible rfl
      rotate_left
      ·
       simp only [aw]
       rfl
      refine one_ (i := 7) (N := some 44) (tm 10 255) rfl rfl (one_of HT_.out (by kernel_rfl)) (by decide) (fun K hK => ?_)
      refine Kd.R_lit_step (Kd.int .u8) _ 5 ?hg (N := 44) ?hd (xs := ([92, 120, bt (⟨#[48, 49, 50, 51, 52, 53, 54, 55, 56, 57, 97, 98, 99, 100, 101, 102]⟩ : ByteArray) (ji17), bt (⟨#[48, 49, 50, 51, 52, 53, 54, 55, 56, 57, 97, 98, 99, 100, 101, 102]⟩ : ByteArray) (Go.bits .and .u8 (bt a0 x9_1) 15)] : List Int)) (inner := [.int .u8 92, .int .u8 120, .int .u8 (bt (⟨#[48, 49, 50, 51, 52, 53, 54, 55, 56, 57, 97, 98, 99, 100, 101, 102]⟩ : ByteArray) (ji17)), .int .u8 (bt (⟨#[48, 49, 50, 51, 52, 53, 54, 55, 56, 57, 97, 98, 99, 100, 101, 102]⟩ : ByteArray) (Go.bits .and .u8 (bt a0 x9_1) 15))]) (ok := fun _ => True) (okp := fun _ => True) ?hr ?hp (fun _ hk => hk) trivial (Below.refl _ _) (Nat.le_refl _) (by simp) ?_; (case hd => rfl); (case hg => rfl); (case hr => first | (go_simp; done) | (go_simp; rfl)); (case hp => exact (Reps.one (show Kd.M (Kd.int .u8) _ _ _ 92 [.int .u8 92] from rfl) (Reps.one (show Kd.M (Kd.int .u8) _ _ _ 120 [.int .u8 120] from rfl) (Reps.one (show Kd.M (Kd.int .u8) _ _ _ (bt (⟨#[48, 49, 50, 51, 52, 53, 54, 55, 56, 57, 97, 98, 99, 100, 101, 102]⟩ : ByteArray) (ji17)) [.int .u8 (bt (⟨#[48, 49, 50, 51, 52, 53, 54, 55, 56, 57, 97, 98, 99, 100, 101, 102]⟩ : ByteArray) (ji17))] from rfl) (Reps.one (show Kd.M (Kd.int .u8) _ _ _ (bt (⟨#[48, 49, 50, 51, 52, 53, 54, 55, 56, 57, 97, 98, 99, 100, 101, 102]⟩ : ByteArray) (Go.bits .and .u8 (bt a0 x9_1) 15)) [.int .u8 (bt (⟨#[48, 49, 50, 51, 52, 53, 54, 55, 56, 57, 97, 98, 99, 100, 101, 102]⟩ : ByteArray) (Go.bits .and .u8 (bt a0 x9_1) 15))] from rfl) (Reps.none _ _))))))
      intro v153 w26 ho27 hb hg_ hnew_
      clear hg_ hnew_
      (first | rw [← Ny152.out] at ho27 | (simp only [Int.reduceToNat] at ho27; rw [← Ny152.out] at ho27))
      have n0_ := Aside0.mk (Kd.R_elder' (by (with_reducible repeat (first | apply Kd.R_alloc | apply Kd.R_drewN | apply Kd.R_drew)); exact HO_3.out) (Kd.R_base ho27) hb)
      have n1_ := Aside0.mk (Kd.R_lower (Kd.R_new' ho27 (Kd.R_lt (by (with_reducible repeat (first | apply Kd.R_alloc | apply Kd.R_drewN | apply Kd.R_drew)); exact HO_3.out))) (zal (by repeat with_reducible first | exact HB.out | apply zae | apply zac | apply zad)))
      have n2_ := Aside0.mk (zap (by repeat with_reducible first | exact HB.out | apply zae | apply zac | apply zad) hb)
      clear HO_3
      clear HB
      have HO_3 := n0_
      have HO154 := n1_
      have HB := n2_
      clear n0_ n1_ n2_
      clear hb ho27
      obtain ⟨Ao29, co29, eo29⟩ := Kd.R_slice HO154.out
      (first | subst eo29 | (injection eo29 with f1_ f2_ f3_; have f4_ := f1_.symm; have f5_ := f3_.symm; clear f1_ f2_ f3_; subst f4_; subst f5_))
      refine hK.out _ _ trivial (fun hHeld => ?_)
      clear hK K
      refine norm_ (a' := ?_) ?_ ?_
      rotate_left
      ·
       show Act.put _ (some 44) _ = _
       simp only [aw]
       rfl
      refine one_ (i := 8) (N := some 45) (tm 10 511) rfl rfl (one_of HT_.out (by kernel_rfl)) (by decide) (fun K hK => ?_)
      refine Kd.R_append_rows_step (Kd.int .u8) (w0 := w) w.heap.size (by rfl) (.tmp 37) (.tmp 44) 49 5 (.int .u8 0) 1 rfl Tryd.underlying49 info5 rfl (by decide) (by omega) u3 x3_1 y152 _ _ _ (fun k_ => some k_ ≠ (.slice Ao29 y152.length co29 : Value).ownBlock) (fun _ => False) rfl rfl ?aO ?aR (fun _ _ h => h) (fun _ h => h.elim) ?aF ?aB ?aS ?aL ?_
      (case aR => repeat (first | exact (Kd.R_reads' HO154.out).2.2 | (with_reducible refine Kd.C_alloc ?_ _) | (with_reducible refine Kd.C_drewN ?_ _) | (with_reducible refine Kd.C_drew ?_)))
      (case aB => exact (by repeat with_reducible first | exact HB.out | apply zae | apply zac | apply zad))
      (case aF => exact (fun k_ hk => Kd.fresh' (Kd.R_lt (by (with_reducible repeat (first | apply Kd.R_alloc | apply Kd.R_drewN | apply Kd.R_drew)); exact HO154.out)) k_ hk))
      (case aO => exact (by (with_reducible repeat (first | apply Kd.R_alloc | apply Kd.R_drewN | apply Kd.R_drew)); exact Kd.R_mono HO_3.out (fun _ hk => hk.2)))
      (case aS => exact (zal (by repeat with_reducible first | exact HB.out | apply zae | apply zac | apply zad)))
      (case aL => have := LMc24.out; omega)
      intro v156 w28 ho hb hg hat
      rw [← Ny155.out] at ho
      have n0_ := Aside0.mk (Kd.R_after (ok := (fun _ => True)) (by (with_reducible repeat (first | apply Kd.R_alloc | apply Kd.R_drewN | apply Kd.R_drew)); exact HO154.out) hg hat)
      have n1_ := Aside0.mk (hb)
      have n2_ := Aside0.mk (ho)
      clear HO154
      clear HB
      clear HO_3
      have HO154 := n0_
      have HB := n1_
      have HO157 := n2_
      clear n0_ n1_ n2_
      clear ho hb hg hat
      refine hK.out _ _ trivial (fun hHeld => ?_)
      clear hK K
      refine norm_ (a' := ?_) ?_ ?_
      rotate_left
      ·
       show Act.put _ (some 45) _ = _
       simp only [aw]
       rfl
      refine pure_ (i := 9) (N := some 3) (v := ?_) (a' := ?_) (tm 10 1023) rfl rfl (zak HT_.out (by kernel_rfl)) (fun _ _ _ h => h) (Or.inl ⟨by rfl, ?_⟩) ?_ ?_
      rotate_left
      ·
       intro w'
       go_simp
       with_reducible rfl
      rotate_left
      ·
       simp only [aw]
       rfl
      refine done_ (done_of HT_.out (by kernel_rfl)) ?_
      try go_wp2
      go_roundg kj7
      case measure => have := HK1.out; have := HJ7.out; omega
      case rel => exact ⟨(y155), (wrap64 (x9_1 + 1)), (by first | rfl | (simp; done) | (simp [*]; done)), H', ⟨by have := HK1.out; have := HJ7.out; omega⟩, ⟨by (with_reducible repeat (first | apply Kd.R_alloc | apply Kd.R_drewN | apply Kd.R_drew)); exact Kd.R_mono HO157.out (fun _ hk => trivial)⟩, ⟨by repeat with_reducible first | exact HB.out | apply zae | apply zac | apply zad⟩⟩
     rw [if_neg c16] at H
     have c16b0 : decide ((bt a0 x9_1) < 32) = false := decide_eq_false c16
     clear c16
     by_cases c30 : (bt a0 x9_1) > 126
     rotate_left
     ·
      rw [if_neg c30] at H
      have c30b0 : decide (126 < (bt a0 x9_1)) = false := decide_eq_false c30
      clear c30
      by_cases c44 : x3_1.length < 140737488355328
      rotate_left
      ·
       rw [if_neg c44] at H
       exact absurd H (by simp)
      rw [if_pos c44] at H
      have LMc44 := Aside0.mk c44
      clear c44
      obtain ⟨y164, hy164⟩ : ∃ y_ : List Int, y_ = (x3_1 ++ [(bt a0 x9_1)]) := ⟨_, rfl⟩
      replace H : (script_Quote.l0 kj7 a0 y164 (a0.size : Int) (wrap64 (x9_1 + 1))) = some r := by first | (rw [hy164]; with_reducible exact H) | (have H2_ := (Option.bind_some _ _).symm.trans H; rw [hy164]; with_reducible exact H2_) | (have H2_ := (Option.bind_some _ _).symm.trans H; with_reducible exact H2_) | with_reducible exact H | (rw [hy164]; exact H) | exact H
      have Ny164 := Aside0.mk hy164
      clear hy164
      have H' := Aside0.mk H
      clear H
      go_wp2_with (first | ((with_reducible refine zax (b := .append) (xs := #[.tmp 15, .tmp 17]) rfl ?_); at_builtin; refine Kd.R_append (Kd.int .u8) (w0 := w) w.heap.size rfl (.tmp 15) (.tmp 17) 49 5 (.int .u8 0) 1 rfl Tryd.underlying49 info5 rfl (by decide) (by omega) u3 x3_1 (bt a0 x9_1) [.int .u8 (bt a0 x9_1)] (fun _ => True) (fun _ => False) rfl rfl ?aP (fun _ hk => hk.elim) ?aF ?aO ?aB ?aS ?aL ?_; (case aP => exact rfl); (case aB => exact (by repeat with_reducible first | exact HB.out | apply zae | apply zac | apply zad)); (case aF => exact (fun _ _ => trivial)); (case aO => exact (by (with_reducible repeat (first | apply Kd.R_alloc | apply Kd.R_drewN | apply Kd.R_drew)); exact HO_3.out)); (case aS => exact (zal (by repeat with_reducible first | exact HB.out | apply zae | apply zac | apply zad))); (case aL => have := LMc44.out; omega); intro v165 w45 ho hb hg hat; rw [← Ny164.out] at ho; have n0_ := Aside0.mk (hb); have n1_ := Aside0.mk (ho); clear HB; clear HO_3; have HB := n0_; have HO166 := n1_; clear n0_ n1_; clear ho hb hg hat))
      go_roundg kj7
      case measure => have := HK1.out; have := HJ7.out; omega
      case rel => exact ⟨(y164), (wrap64 (x9_1 + 1)), (by first | rfl | (simp; done) | (simp [*]; done)), H', ⟨by have := HK1.out; have := HJ7.out; omega⟩, ⟨by (with_reducible repeat (first | apply Kd.R_alloc | apply Kd.R_drewN | apply Kd.R_drew)); exact HO166.out⟩, ⟨by repeat with_reducible first | exact HB.out | apply zae | apply zac | apply zad⟩⟩
     rw [if_pos c30] at H
     have c30b0 : decide (126 < (bt a0 x9_1)) = true := decide_eq_true c30
     clear c30
     obtain ⟨ji31, hji31⟩ : ∃ j_ : Int, ((bt a0 x9_1) / 16) = j_ := ⟨_, rfl⟩
     replace H : (if 0 ≤ (ji31) then (if (ji31) < 16 then (if 0 ≤ (Go.bits .and .u8 (bt a0 x9_1) 15) then (if (Go.bits .and .u8 (bt a0 x9_1) 15) < 16 then ((some (([92, 120, bt (⟨#[48, 49, 50, 51, 52, 53, 54, 55, 56, 57, 97, 98, 99, 100, 101, 102]⟩ : ByteArray) (ji31), bt (⟨#[48, 49, 50, 51, 52, 53, 54, 55, 56, 57, 97, 98, 99, 100, 101, 102]⟩ : ByteArray) (Go.bits .and .u8 (bt a0 x9_1) 15)] : List Int) : List Int)).bind fun y158 => (if x3_1.length + y158.length < 140737488355328 then (script_Quote.l0 kj7 a0 (x3_1 ++ y158) (a0.size : Int) (wrap64 (x9_1 + 1))) else (none))) else (none)) else (none)) else (none)) else (none)) = some r := by first | (rw [hji31] at H; exact H) | (simp only [hji31] at H ⊢; exact H)
     by_cases c32 : 0 ≤ (ji31)
     rotate_left
     ·
      rw [if_neg c32] at H
      exact absurd H (by simp)
     rw [if_pos c32] at H
     have c32b0 : decide (0 ≤ (ji31)) = true := decide_eq_true c32
     clear c32
     by_cases c33 : (ji31) < 16
     rotate_left
     ·
      rw [if_neg c33] at H
      exact absurd H (by simp)
     rw [if_pos c33] at H
     have c33b0 : decide ((ji31) < 16) = true := decide_eq_true c33
     clear c33
     by_cases c35 : 0 ≤ (Go.bits .and .u8 (bt a0 x9_1) 15)
     rotate_left
     ·
      rw [if_neg c35] at H
      exact absurd H (by simp)
     rw [if_pos c35] at H
     have c35b0 : decide (0 ≤ (Go.bits .and .u8 (bt a0 x9_1) 15)) = true := decide_eq_true c35
     clear c35
     by_cases c36 : (Go.bits .and .u8 (bt a0 x9_1) 15) < 16
     rotate_left
     ·
      rw [if_neg c36] at H
      exact absurd H (by simp)
     rw [if_pos c36] at H
     have c36b0 : decide ((Go.bits .and .u8 (bt a0 x9_1) 15) < 16) = true := decide_eq_true c36
     clear c36
     obtain ⟨y158, hy158⟩ : ∃ y_ : List Int, y_ = (([92, 120, bt (⟨#[48, 49, 50, 51, 52, 53, 54, 55, 56, 57, 97, 98, 99, 100, 101, 102]⟩ : ByteArray) (ji31), bt (⟨#[48, 49, 50, 51, 52, 53, 54, 55, 56, 57, 97, 98, 99, 100, 101, 102]⟩ : ByteArray) (Go.bits .and .u8 (bt a0 x9_1) 15)] : List Int)) := ⟨_, rfl⟩
     replace H : (if x3_1.length + y158.length < 140737488355328 then (script_Quote.l0 kj7 a0 (x3_1 ++ y158) (a0.size : Int) (wrap64 (x9_1 + 1))) else (none)) = some r := by first | (rw [hy158]; with_reducible exact H) | (have H2_ := (Option.bind_some _ _).symm.trans H; rw [hy158]; with_reducible exact H2_) | (have H2_ := (Option.bind_some _ _).symm.trans H; with_reducible exact H2_) | with_reducible exact H | (rw [hy158]; exact H) | exact H
     have Ny158 := Aside0.mk hy158
     clear hy158
     by_cases c38 : x3_1.length + y158.length < 140737488355328
     rotate_left
     ·
      rw [if_neg c38] at H
      exact absurd H (by simp)
     rw [if_pos c38] at H
     have LMc38 := Aside0.mk c38
     clear c38
     obtain ⟨y161, hy161⟩ : ∃ y_ : List Int, y_ = (x3_1 ++ y158) := ⟨_, rfl⟩
     replace H : (script_Quote.l0 kj7 a0 y161 (a0.size : Int) (wrap64 (x9_1 + 1))) = some r := by first | (rw [hy161]; with_reducible exact H) | (have H2_ := (Option.bind_some _ _).symm.trans H; rw [hy161]; with_reducible exact H2_) | (have H2_ := (Option.bind_some _ _).symm.trans H; with_reducible exact H2_) | with_reducible exact H | (rw [hy161]; exact H) | exact H
     have Ny161 := Aside0.mk hy161
     clear hy161
     have H' := Aside0.mk H
     clear H
     try go_wp2
     have n0_ := Aside0.mk (Kd.R_drew HO_3.out)
     have n1_ := Aside0.mk (zad HB.out)
     clear HO_3
     clear HB
     have HO_3 := n0_
     have HB := n1_
     clear n0_ n1_
     have p34 : 0 ≤ ((ji31) : Int) := of_decide_eq_true (by first | (with_reducible assumption) | assumption)
     have q34 : (ji31) < (16 : Int) := of_decide_eq_true (by first | (with_reducible assumption) | assumption)
     have hx34 := bt_at (⟨#[48, 49, 50, 51, 52, 53, 54, 55, 56, 57, 97, 98, 99, 100, 101, 102]⟩ : ByteArray) (ji31)
     replace p34 := eq_true p34
     replace q34 := eq_true q34
     have p37 : 0 ≤ ((Go.bits .and .u8 (bt a0 x9_1) 15) : Int) := of_decide_eq_true (by first | (with_reducible assumption) | assumption)
     have q37 : (Go.bits .and .u8 (bt a0 x9_1) 15) < (16 : Int) := of_decide_eq_true (by first | (with_reducible assumption) | assumption)
     have hx37 := bt_at (⟨#[48, 49, 50, 51, 52, 53, 54, 55, 56, 57, 97, 98, 99, 100, 101, 102]⟩ : ByteArray) (Go.bits .and .u8 (bt a0 x9_1) 15)
     replace p37 := eq_true p37
     replace q37 := eq_true q37
     refine start_ (n := 10) (S := fun w' => True) (ds := []) #[false, false, false, false, false, false, false, false, false, false] (by kernel_rfl) rfl rfl trivial (fun hHeld => ?_); refine zbp script_Quote.tab10 script_Quote.bits10 (fun HT_ HW_ => ?_)
     generalize wc.drew = w39 at HO_3 HB hHeld ⊢
     refine pure_ (i := 0) (N := some 37) (v := ?_) (a' := ?_) (tm 10 1) rfl rfl (zak HT_.out (by kernel_rfl)) (fun _ _ _ h => h) (Or.inl ⟨by rfl, ?_⟩) ?_ ?_
     rotate_left
     ·
      intro w'
      go_simp
      with_reducible rfl
     rotate_left
     ·
      simp only [aw]
      rfl
     refine pure_ (i := 1) (N := some 38) (v := ?_) (a' := ?_) (tm 10 3) rfl rfl (zak HT_.out (by kernel_rfl)) (fun _ _ _ h => h) (Or.inl ⟨by rfl, ?_⟩) ?_ ?_
     rotate_left
     ·
      intro w'
      go_simp
      with_reducible rfl
     rotate_left
     ·
      simp only [aw]
      rfl
     refine pure_ (i := 2) (N := some 39) (v := ?_) (a' := ?_) (tm 10 7) rfl rfl (zak HT_.out (by kernel_rfl)) (fun _ _ _ h => h) (Or.inl ⟨by rfl, ?_⟩) ?_ ?_
     rotate_left
     ·
      intro w'
      go_simp
      with_reducible rfl
     rotate_left
     ·
      simp only [aw]
      rfl
     refine pure_ (i := 4) (N := some 41) (v := ?_) (a' := ?_) (tm 10 23) rfl rfl (zak HT_.out (by kernel_rfl)) (fun _ _ _ h => h) (Or.inl ⟨by rfl, ?_⟩) ?_ ?_
     rotate_left
     ·
      intro w'
      go_simp
      with_reducible rfl
     rotate_left
     ·
      simp only [aw]
      rfl
     refine pure_ (i := 5) (N := some 42) (v := ?_) (a' := ?_) (tm 10 55) rfl rfl (zak HT_.out (by kernel_rfl)) (fun _ _ _ h => h) (Or.inl ⟨by rfl, ?_⟩) ?_ ?_
     rotate_left
     ·
      intro w'
      go_simp
      with_reducible rfl
     rotate_left
     ·
      simp only [aw]
      rfl
     refine take_ (i := 3) (N := some 40) (v := ?_) (a' := ?_) #[true, true, true, true, true, true, false, false, false, false] rfl rfl (zat HT_.out HW_.out (by kernel_rfl)) (fun _ _ _ h => h) (Or.inl ⟨by rfl, ?_⟩) hHeld ?_ ?_
     rotate_left
     ·
      intro w' _
      go_simp
      with_reducible rfl
     rotate_left
     ·
      simp only [aw]
      rfl
     refine take_ (i := 6) (N := some 43) (v := ?_) (a' := ?_) #[true, true, true, true, true, true, true, false, false, false] rfl rfl (zat HT_.out HW_.out (by kernel_rfl)) (fun _ _ _ h => h) (Or.inl ⟨by rfl, ?_⟩) hHeld ?_ ?_
     rotate_left
     ·
      intro w' _
      go_simp
      with_reducible rfl
     rotate_left
     ·
      simp only [aw]
      rfl
     refine one_ (i := 7) (N := some 44) (tm 10 255) rfl rfl (one_of HT_.out (by kernel_rfl)) (by decide) (fun K hK => ?_)
     refine Kd.R_lit_step (Kd.int .u8) _ 5 ?hg (N := 44) ?hd (xs := ([92, 120, bt (⟨#[48, 49, 50, 51, 52, 53, 54, 55, 56, 57, 97, 98, 99, 100, 101, 102]⟩ : ByteArray) (ji31), bt (⟨#[48, 49, 50, 51, 52, 53, 54, 55, 56, 57, 97, 98, 99, 100, 101, 102]⟩ : ByteArray) (Go.bits .and .u8 (bt a0 x9_1) 15)] : List Int)) (inner := [.int .u8 92, .int .u8 120, .int .u8 (bt (⟨#[48, 49, 50, 51, 52, 53, 54, 55, 56, 57, 97, 98, 99, 100, 101, 102]⟩ : ByteArray) (ji31)), .int .u8 (bt (⟨#[48, 49, 50, 51, 52, 53, 54, 55, 56, 57, 97, 98, 99, 100, 101, 102]⟩ : ByteArray) (Go.bits .and .u8 (bt a0 x9_1) 15))]) (ok := fun _ => True) (okp := fun _ => True) ?hr ?hp (fun _ hk => hk) trivial (Below.refl _ _) (Nat.le_refl _) (by simp) ?_; (case hd => rfl); (case hg => rfl); (case hr => first | (go_simp; done) | (go_simp; rfl)); (case hp => exact (Reps.one (show Kd.M (Kd.int .u8) _ _ _ 92 [.int .u8 92] from rfl) (Reps.one (show Kd.M (Kd.int .u8) _ _ _ 120 [.int .u8 120] from rfl) (Reps.one (show Kd.M (Kd.int .u8) _ _ _ (bt (⟨#[48, 49, 50, 51, 52, 53, 54, 55, 56, 57, 97, 98, 99, 100, 101, 102]⟩ : ByteArray) (ji31)) [.int .u8 (bt (⟨#[48, 49, 50, 51, 52, 53, 54, 55, 56, 57, 97, 98, 99, 100, 101, 102]⟩ : ByteArray) (ji31))] from rfl) (Reps.one (show Kd.M (Kd.int .u8) _ _ _ (bt (⟨#[48, 49, 50, 51, 52, 53, 54, 55, 56, 57, 97, 98, 99, 100, 101, 102]⟩ : ByteArray) (Go.bits .and .u8 (bt a0 x9_1) 15)) [.int .u8 (bt (⟨#[48, 49, 50, 51, 52, 53, 54, 55, 56, 57, 97, 98, 99, 100, 101, 102]⟩ : ByteArray) (Go.bits .and .u8 (bt a0 x9_1) 15))] from rfl) (Reps.none _ _))))))
     intro v159 w40 ho41 hb hg_ hnew_
     clear hg_ hnew_
     (first | rw [← Ny158.out] at ho41 | (simp only [Int.reduceToNat] at ho41; rw [← Ny158.out] at ho41))
     have n0_ := Aside0.mk (Kd.R_elder' (by (with_reducible repeat (first | apply Kd.R_alloc | apply Kd.R_drewN | apply Kd.R_drew)); exact HO_3.out) (Kd.R_base ho41) hb)
     have n1_ := Aside0.mk (Kd.R_lower (Kd.R_new' ho41 (Kd.R_lt (by (with_reducible repeat (first | apply Kd.R_alloc | apply Kd.R_drewN | apply Kd.R_drew)); exact HO_3.out))) (zal (by repeat with_reducible first | exact HB.out | apply zae | apply zac | apply zad)))
     have n2_ := Aside0.mk (zap (by repeat with_reducible first | exact HB.out | apply zae | apply zac | apply zad) hb)
     clear HO_3
     clear HB
     have HO_3 := n0_
     have HO160 := n1_
     have HB := n2_
     clear n0_ n1_ n2_
     clear hb ho41
     obtain ⟨Ao43, co43, eo43⟩ := Kd.R_slice HO160.out
     (first | subst eo43 | (injection eo43 with f1_ f2_ f3_; have f4_ := f1_.symm; have f5_ := f3_.symm; clear f1_ f2_ f3_; subst f4_; subst f5_))
     refine hK.out _ _ trivial (fun hHeld => ?_)
     clear hK K
     refine norm_ (a' := ?_) ?_ ?_
     rotate_left
     ·
      show Act.put _ (some 44) _ = _
      simp only [aw]
      rfl
     refine one_ (i := 8) (N := some 45) (tm 10 511) rfl rfl (one_of HT_.out (by kernel_rfl)) (by decide) (fun K hK => ?_)
     refine Kd.R_append_rows_step (Kd.int .u8) (w0 := w) w.heap.size (by rfl) (.tmp 37) (.tmp 44) 49 5 (.int .u8 0) 1 rfl Tryd.underlying49 info5 rfl (by decide) (by omega) u3 x3_1 y158 _ _ _ (fun k_ => some k_ ≠ (.slice Ao43 y158.length co43 : Value).ownBlock) (fun _ => False) rfl rfl ?aO ?aR (fun _ _ h => h) (fun _ h => h.elim) ?aF ?aB ?aS ?aL ?_
     (case aR => repeat (first | exact (Kd.R_reads' HO160.out).2.2 | (with_reducible refine Kd.C_alloc ?_ _) | (with_reducible refine Kd.C_drewN ?_ _) | (with_reducible refine Kd.C_drew ?_)))
     (case aB => exact (by repeat with_reducible first | exact HB.out | apply zae | apply zac | apply zad))
     (case aF => exact (fun k_ hk => Kd.fresh' (Kd.R_lt (by (with_reducible repeat (first | apply Kd.R_alloc | apply Kd.R_drewN | apply Kd.R_drew)); exact HO160.out)) k_ hk))
     (case aO => exact (by (with_reducible repeat (first | apply Kd.R_alloc | apply Kd.R_drewN | apply Kd.R_drew)); exact Kd.R_mono HO_3.out (fun _ hk => hk.2)))
     (case aS => exact (zal (by repeat with_reducible first | exact HB.out | apply zae | apply zac | apply zad)))
     (case aL => have := LMc38.out; omega)
     intro v162 w42 ho hb hg hat
     rw [← Ny161.out] at ho
     have n0_ := Aside0.mk (Kd.R_after (ok := (fun _ => True)) (by (with_reducible repeat (first | apply Kd.R_alloc | apply Kd.R_drewN | apply Kd.R_drew)); exact HO160.out) hg hat)
     have n1_ := Aside0.mk (hb)
     have n2_ := Aside0.mk (ho)
     clear HO160
     clear HB
     clear HO_3
     have HO160 := n0_
     have HB := n1_
     have HO163 := n2_
     clear n0_ n1_ n2_
     clear ho hb hg hat
     refine hK.out _ _ trivial (fun hHeld => ?_)
     clear hK K
     refine norm_ (a' := ?_) ?_ ?_
     rotate_left
     ·
      show Act.put _ (some 45) _ = _
      simp only [aw]
      rfl
     refine pure_ (i := 9) (N := some 3) (v := ?_) (a' := ?_) (tm 10 1023) rfl rfl (zak HT_.out (by kernel_rfl)) (fun _ _ _ h => h) (Or.inl ⟨by rfl, ?_⟩) ?_ ?_
     rotate_left
     ·
      intro w'
      go_simp
      with_reducible rfl
     rotate_left
     ·
      simp only [aw]
      rfl
     refine done_ (done_of HT_.out (by kernel_rfl)) ?_
     try go_wp2
     go_roundg kj7
     case measure => have := HK1.out; have := HJ7.out; omega
     case rel => exact ⟨(y161), (wrap64 (x9_1 + 1)), (by first | rfl | (simp; done) | (simp [*]; done)), H', ⟨by have := HK1.out; have := HJ7.out; omega⟩, ⟨by (with_reducible repeat (first | apply Kd.R_alloc | apply Kd.R_drewN | apply Kd.R_drew)); exact Kd.R_mono HO163.out (fun _ hk => trivial)⟩, ⟨by repeat with_reducible first | exact HB.out | apply zae | apply zac | apply zad⟩⟩

end Go.Proofs.YtdmlgligljagoaaDoor.PS

set_option linter.unusedVariables false
set_option linter.unusedSimpArgs false
namespace Go.Proofs.YtdmlgligljagoaaDoor
open Go.RowKit Go.Proofs.YtdmlgligljagoaaDoorW.PrintWords PS

def hx (n : Nat) : UInt8 := hexDigits.getD n 0
def quoteB (c : UInt8) : List UInt8 := if c = 34 ∨ c = 92 then [92, c] else if c.toNat < 32 ∨ 126 < c.toNat then [92, 120, hx (c.toNat / 16), hx (c.toNat % 16)] else [c]
def zau (s : List UInt8) : List UInt8 := 34 :: (s.flatMap quoteB ++ [34])
def bHex : ByteArray := ⟨#[48, 49, 50, 51, 52, 53, 54, 55, 56, 57, 97, 98, 99, 100, 101, 102]⟩
theorem and15 : ∀ n : Fin 256, Go.bits .and .u8 ((n.val : Nat) : Int) 15 = ((n.val % 16 : Nat) : Int) := by decide +kernel
theorem bt_hx : ∀ n : Fin 16, bt bHex ((n.val : Nat) : Int) = ((hx n.val).toNat : Int) := by decide +kernel
theorem quoteB_len (c : UInt8) : 1 ≤ (quoteB c).length ∧ (quoteB c).length ≤ 4 := by
  unfold quoteB
  split
  · simp
  · split <;> simp
theorem quoteL_len (s : List UInt8) : s.length + 2 ≤ (zau s).length ∧ (zau s).length ≤ 4 * s.length + 2 := by
  unfold zau
  have : s.length ≤ (s.flatMap quoteB).length ∧ (s.flatMap quoteB).length ≤ 4 * s.length := by
    induction s with
    | nil => simp
    | cons c s ih => have := quoteB_len c; simp only [List.flatMap_cons, List.length_append, List.length_cons]; omega
  simp only [List.length_cons, List.length_append, List.length_nil]
  omega
theorem nums_app (a b : List UInt8) : nums (a ++ b) = nums a ++ nums b := by simp [nums]
set_option maxHeartbeats 1000000 in
theorem quote_go (s : List UInt8) (hs : s.length ≤ 4398046511104) :
    ∀ d i (acc : List Int), i + d = s.length → acc.length ≤ 4 * i + 1 → Ev (fun k => script_Quote.l0 k (bs s) acc (s.length : Int) (i : Int)) (strOfNums (acc ++ nums ((s.drop i).flatMap quoteB) ++ [34])) := by
  intro d
  induction d with
  | zero =>
    intro i acc hi ha
    refine Ev.step (f := fun _ => some _) (fun k => ?_) (Ev.now _)
    rw [script_Quote.l0, if_neg (by omega), if_pos (by omega), List.drop_of_length_le (by omega)]
    simp [nums]
  | succ d ih =>
    intro i acc hi ha
    have hlt : i < s.length := by omega
    have b0 : bt (bs s) (i : Int) = ((s[i]'hlt).toNat : Int) := bt_bs s i hlt
    have p1 : wrap64 ((i : Int) + 1) = ((i + 1 : Nat) : Int) := w64p 1 (by omega)
    have hz : ((bs s).size : Int) = (s.length : Int) := by rw [zao]
    have hn := ih (i + 1)
    have hc8 : (s[i]'hlt).toNat < 256 := (s[i]'hlt).toNat_lt
    rw [List.drop_eq_getElem_cons hlt]
    generalize s[i] = c at b0 hc8 ⊢
    rw [List.flatMap_cons, nums_app]
    by_cases hq : c = 34 ∨ c = 92
    · have e : nums (quoteB c) = [92, (c.toNat : Int)] := by unfold quoteB; rw [if_pos hq]; rfl
      rw [e]
      refine Ev.step (f := fun k => script_Quote.j1 k (bs s) acc (c.toNat : Int) (s.length : Int) i true) (fun k => ?_) (Ev.step (f := fun k => script_Quote.l0 k (bs s) (acc ++ [92, (c.toNat : Int)]) (s.length : Int) ((i + 1 : Nat) : Int)) (fun k => ?_) ?_)
      · rw [script_Quote.l0, if_pos (by omega), if_pos (by omega), hz, if_pos (by omega), b0]
        by_cases h34 : (c.toNat : Int) = 34
        · rw [if_pos h34]
        · rw [if_neg h34, show ((c.toNat : Int) == 92) = true from beq_iff_eq.2 ((u8_92 c).2 (hq.resolve_left (fun h => h34 ((u8_34 c).2 h))))]
      · rw [script_Quote.j1, if_pos rfl, Option.bind_some, if_pos (by simp; omega), p1]
      · have := hn (acc ++ [92, (c.toNat : Int)]) (by omega) (by simp; omega)
        simpa only [List.append_assoc] using this
    · have h34 : ¬ (c.toNat : Int) = 34 := fun h => hq (.inl ((u8_34 c).1 h))
      have h92 : ¬ (c.toNat : Int) = 92 := fun h => hq (.inr ((u8_92 c).1 h))
      refine Ev.step (f := fun k => script_Quote.j1 k (bs s) acc (c.toNat : Int) (s.length : Int) i false) (fun k => ?_) ?_
      · rw [script_Quote.l0, if_pos (by omega), if_pos (by omega), hz, if_pos (by omega), b0, if_neg h34, show ((c.toNat : Int) == 92) = false from beq_eq_false_iff_ne.2 h92]
      by_cases hr : c.toNat < 32 ∨ 126 < c.toNat
      · have e : nums (quoteB c) = [92, 120, ((hx (c.toNat / 16)).toNat : Int), ((hx (c.toNat % 16)).toNat : Int)] := by unfold quoteB; rw [if_neg hq, if_pos hr]; rfl
        rw [e]
        have ha15 : Go.bits .and .u8 (c.toNat : Int) 15 = ((c.toNat % 16 : Nat) : Int) := and15 ⟨c.toNat, hc8⟩
        have hd16 : ((c.toNat : Int) / 16) = ((c.toNat / 16 : Nat) : Int) := by omega
        have hb1 : bt (⟨#[48, 49, 50, 51, 52, 53, 54, 55, 56, 57, 97, 98, 99, 100, 101, 102]⟩ : ByteArray) ((c.toNat / 16 : Nat) : Int) = ((hx (c.toNat / 16)).toNat : Int) := bt_hx ⟨c.toNat / 16, by omega⟩
        have hb2 : bt (⟨#[48, 49, 50, 51, 52, 53, 54, 55, 56, 57, 97, 98, 99, 100, 101, 102]⟩ : ByteArray) ((c.toNat % 16 : Nat) : Int) = ((hx (c.toNat % 16)).toNat : Int) := bt_hx ⟨c.toNat % 16, by omega⟩
        have hn1 := hn (acc ++ [92, 120, ((hx (c.toNat / 16)).toNat : Int), ((hx (c.toNat % 16)).toNat : Int)]) (by omega) (by simp; omega)
        refine Ev.step (f := fun k => script_Quote.l0 k (bs s) (acc ++ [92, 120, ((hx (c.toNat / 16)).toNat : Int), ((hx (c.toNat % 16)).toNat : Int)]) (s.length : Int) ((i + 1 : Nat) : Int)) (fun k => ?_) (by simpa only [List.append_assoc] using hn1)
        rw [script_Quote.j1, if_neg (by simp), ha15, hd16, hb1, hb2, p1]
        by_cases h32 : (c.toNat : Int) < 32
        · rw [if_pos h32, if_pos (by omega), if_pos (by omega), if_pos (by omega), if_pos (by omega), Option.bind_some, if_pos (by simp; omega)]
        · rw [if_neg h32, if_pos (by omega), if_pos (by omega), if_pos (by omega), if_pos (by omega), if_pos (by omega), Option.bind_some, if_pos (by simp; omega)]
      · have e : nums (quoteB c) = [(c.toNat : Int)] := by unfold quoteB; rw [if_neg hq, if_neg hr]; rfl
        rw [e]
        refine Ev.step (f := fun k => script_Quote.l0 k (bs s) (acc ++ [(c.toNat : Int)]) (s.length : Int) ((i + 1 : Nat) : Int)) (fun k => ?_) (by have := hn (acc ++ [(c.toNat : Int)]) (by omega) (by simp; omega); simpa only [List.append_assoc] using this)
        rw [script_Quote.j1, if_neg (by simp), if_neg (by omega), if_neg (by omega), if_pos (by omega), p1]
theorem quote_ev (s : List UInt8) (hs : s.length ≤ 4398046511104) : Ev (fun k => script_Quote.f k (bs s)) (bs (zau s)) := by
  have h := quote_go s hs s.length 0 [34] (by omega) (by simp)
  have e : strOfNums ([34] ++ nums ((s.drop 0).flatMap quoteB) ++ [34]) = bs (zau s) := by
    rw [← strOfNums_nums]
    congr 1
    simp [zau, nums]
  rw [e] at h
  refine Ev.congr (fun k => ?_) h
  unfold script_Quote.f
  rw [zao]
  rfl
theorem quote_is (s : List UInt8) (hs : s.length ≤ 4398046511104) : ∃ k, script_Quote.f k (bs s) = some (bs (zau s)) := Ev.rounds (quote_ev s hs)
theorem quoteS_any (s : ByteArray) (w : World) (hs : s.size ≤ 4398046511104) :
    Calls Tryd.prog 13 #[.string s] w fun e w' => e = .returned (.string (bs (zau s.data.toList))) ∧ Below w.heap.size w w' := by
  obtain ⟨k, hk⟩ := quote_is s.data.toList (by rw [← Lib.size_eq]; exact hs)
  rw [bs_self] at hk
  exact script_Quote.calls k s _ w hk
end Go.Proofs.YtdmlgligljagoaaDoor

set_option linter.unusedVariables false
set_option linter.unusedSimpArgs false
namespace Go.Proofs.YtdmlgligljagoaaDoor
open Go.RowKit PS

def I64 (n : Int) : Prop := -9223372036854775808 ≤ n ∧ n ≤ 9223372036854775807
instance (n : Int) : Decidable (I64 n) := inferInstanceAs (Decidable (_ ∧ _))
theorem wrap_I64 (n : Int) : I64 (wrap64 n) := wrap_in n
/-! numbers -/
theorem go_app (a b : List UInt8) (i : Nat) (n : Int) : numV.go (a ++ b) i n = (numV.go a i n).bind (numV.go b (i + a.length)) := by
  induction a generalizing i n with
  | nil => rfl
  | cons c a ih =>
    rw [List.cons_append, numV.go, numV.go]
    split
    · rfl
    · rw [ih, List.length_cons, show i + 1 + a.length = i + (a.length + 1) from by omega]
theorem nD_le : ∀ k u : Nat, 1 ≤ k → u < 10 ^ k → Lib.nDigits u ≤ k := by
  intro k
  induction k with
  | zero => intro u h; omega
  | succ k ih =>
    intro u _ hu
    by_cases h : u < 10
    · rw [Lib.nDigits_small h]; omega
    · rw [Lib.nDigits_big h]
      rcases Nat.eq_zero_or_pos k with rfl | hk
      · simp at hu; omega
      · have := ih (u / 10) hk (by rw [Nat.pow_succ] at hu; omega)
        omega
theorem dig_toNat {d : Nat} (h : d < 10) : (UInt8.ofNat (48 + d)).toNat = 48 + d := by
  rw [UInt8.toNat_ofNat']; omega
theorem go_dec (u : Nat) : u ≤ 9223372036854775808 → numV.go (Lib.decDigits u) 0 0 = some (-(u : Int)) := by
  induction u using Nat.strongRecOn with
  | ind u ih =>
    intro hu
    by_cases h : u < 10
    · rw [Lib.decDigits_one h, numV.go, if_neg (by rw [dig_toNat h]; omega), numV.go, dig_toNat h]
      congr 1
      unfold wrap64; omega
    · have hd : Lib.decDigits u = Lib.decDigits (u / 10) ++ [UInt8.ofNat (48 + u % 10)] := by rw [Lib.decDigits, dif_neg h]
      have hn : Lib.nDigits (u / 10) ≤ 18 := nD_le 18 _ (by omega) (by omega)
      have h10 : u % 10 < 10 := Nat.mod_lt _ (by omega)
      rw [hd, go_app, ih (u / 10) (by omega) (by omega), Option.bind_some, numV.go, if_neg (by rw [dig_toNat h10, Lib.decDigits_length]; omega), numV.go, dig_toNat h10]
      congr 1
      unfold wrap64; omega
theorem decDigits_head (u : Nat) : ∃ c r, Lib.decDigits u = c :: r ∧ 48 ≤ c.toNat ∧ c.toNat ≤ 57 := by
  induction u using Nat.strongRecOn with
  | ind u ih =>
    by_cases h : u < 10
    · exact ⟨_, _, Lib.decDigits_one h, by rw [dig_toNat h]; omega, by rw [dig_toNat h]; omega⟩
    · obtain ⟨c, r, e, h1, h2⟩ := ih (u / 10) (by omega)
      exact ⟨c, r ++ [UInt8.ofNat (48 + u % 10)], by rw [Lib.decDigits, dif_neg h, e]; rfl, h1, h2⟩
theorem decDigits_mem (u : Nat) : ∀ c ∈ Lib.decDigits u, 48 ≤ c.toNat ∧ c.toNat ≤ 57 := by
  induction u using Nat.strongRecOn with
  | ind u ih =>
    intro c hc
    by_cases h : u < 10
    · rw [Lib.decDigits_one h, List.mem_singleton] at hc
      subst hc; rw [dig_toNat h]; omega
    · rw [Lib.decDigits, dif_neg h] at hc
      rcases List.mem_append.1 hc with hc | hc
      · exact ih (u / 10) (by omega) c hc
      · rw [List.mem_singleton] at hc
        subst hc; rw [dig_toNat (Nat.mod_lt _ (by omega))]; omega
theorem trim_minus (l : List UInt8) : Lib.trimPrefix (45 :: l) [45] = l := by cases l <;> rfl
theorem trim_not {c : UInt8} {l : List UInt8} (h : c ≠ 45) : Lib.trimPrefix (c :: l) [45] = c :: l := by
  unfold Lib.trimPrefix Lib.hasPrefix
  rw [if_neg]
  simp [List.isPrefixOf]
  exact fun e => h e.symm
theorem itoa_mem {n : Int} {c : UInt8} (h : c ∈ Lib.itoa n) : c = 45 ∨ (48 ≤ c.toNat ∧ c.toNat ≤ 57) := by
  unfold Lib.itoa at h
  split at h
  · rcases List.mem_cons.1 h with h | h
    · exact .inl h
    · exact .inr (decDigits_mem _ c h)
  · exact .inr (decDigits_mem _ c h)
theorem itoa_ne (n : Int) : Lib.itoa n ≠ [] := by
  unfold Lib.itoa
  split
  · simp
  · obtain ⟨c, r, e, _⟩ := decDigits_head n.toNat
    rw [e]; simp
theorem numV_itoa {n : Int} (h : I64 n) : numV ⟨bs (Lib.itoa n), false⟩ = (n, true) := by
  unfold I64 at h
  unfold numV
  dsimp only
  rw [zbc]
  by_cases hn : n < 0
  · obtain ⟨u, rfl⟩ : ∃ u : Nat, n = -(u : Int) := ⟨n.natAbs, by omega⟩
    rw [Lib.itoa_neg u (by omega), trim_minus, go_dec u (by omega)]
    dsimp only
    rw [if_neg (by simp), Lib.itoa_neg u (by omega)]
    simp
  · obtain ⟨u, rfl⟩ : ∃ u : Nat, n = u := ⟨n.toNat, by omega⟩
    have ht : Lib.trimPrefix (Lib.decDigits u) [45] = Lib.decDigits u := by
      obtain ⟨c, r, e, h1, h2⟩ := decDigits_head u
      rw [e]; exact trim_not (fun e => by subst e; simp at h1)
    rw [Lib.itoa_nonneg, ht, go_dec u (by omega)]
    dsimp only
    have hw : wrap64 (-(-(u : Int))) = u := by unfold wrap64; omega
    rw [if_pos rfl, hw, Lib.itoa_nonneg]
    simp
theorem go_I64 : ∀ (l : List UInt8) (i : Nat) (n m : Int), numV.go l i n = some m → I64 n → I64 m := by
  intro l
  induction l with
  | nil => intro i n m h hn; rw [numV.go] at h; cases h; exact hn
  | cons c l ih =>
    intro i n m h hn
    rw [numV.go] at h
    split at h
    · cases h
    · exact ih _ _ _ h (wrap_I64 _)
theorem numV_ok {x : S88} (h : (numV x).2 = true) : x.f1 = false ∧ x.f0 = bs (Lib.itoa (numV x).1) ∧ I64 (numV x).1 := by
  unfold numV at h ⊢
  dsimp only at h ⊢
  generalize hg : numV.go (Lib.trimPrefix x.f0.data.toList [45]) 0 0 = g at h ⊢
  cases g with
  | none => simp at h
  | some n =>
    have hI := go_I64 _ _ _ _ hg (by unfold I64; omega)
    dsimp only at h ⊢
    split at h
    · next hl =>
      rw [if_pos hl]
      simp only [Bool.and_eq_true, Bool.not_eq_true', beq_iff_eq] at h
      exact ⟨h.1, by rw [h.2]; exact bs_of _, wrap_I64 _⟩
    · next hl =>
      rw [if_neg hl]
      simp only [Bool.and_eq_true, Bool.not_eq_true', beq_iff_eq] at h
      exact ⟨h.1, by rw [h.2]; exact bs_of _, hI⟩
/-! quoted texts -/
theorem hexV_hx : ∀ n : Fin 16, hexV (hx n.val) = (n.val : Int) ∧ 32 ≤ (hx n.val).toNat ∧ (hx n.val).toNat ≤ 126 := by decide +kernel
def hexB (c : UInt8) : List UInt8 := [92, 120, hx (c.toNat / 16), hx (c.toNat % 16)]
theorem quotedL_hex (c : UInt8) (r : List UInt8) : quotedL (hexB c ++ r) = (quotedL r).map fun p => (c :: p.1, p.2) := by
  have hc := c.toNat_lt
  obtain ⟨a1, _⟩ := hexV_hx ⟨c.toNat / 16, by omega⟩
  obtain ⟨b1, _⟩ := hexV_hx ⟨c.toNat % 16, by omega⟩
  unfold hexB
  rw [List.cons_append, List.cons_append, List.cons_append, List.cons_append, List.nil_append, quotedL.eq_def]
  dsimp only
  rw [if_neg (by decide), if_neg (by decide), if_neg (by decide)]
  rw [if_neg (by decide), if_pos rfl]
  rw [a1, b1, if_pos ⟨by omega, by omega⟩]
  have e : UInt8.ofNat (16 * ((c.toNat / 16 : Nat) : Int) + ((c.toNat % 16 : Nat) : Int)).toNat = c := by
    rw [show (16 * ((c.toNat / 16 : Nat) : Int) + ((c.toNat % 16 : Nat) : Int)).toNat = c.toNat from by omega]
    exact UInt8.ofNat_toNat
  first | rw [e] | simp [e]
theorem quotedL_byte (c : UInt8) (r : List UInt8) : quotedL (quoteB c ++ r) = (quotedL r).map fun p => (c :: p.1, p.2) := by
  unfold quoteB
  by_cases hq : c = 34 ∨ c = 92
  · rw [if_pos hq, List.cons_append, List.cons_append, List.nil_append, quotedL.eq_def]
    dsimp only
    rw [if_neg (by decide), if_neg (by decide), if_neg (by decide)]
    rw [if_pos hq]
  · rw [if_neg hq]
    by_cases hr : c.toNat < 32 ∨ 126 < c.toNat
    · rw [if_pos hr]; exact quotedL_hex c r
    · rw [if_neg hr, List.cons_append, List.nil_append, quotedL.eq_def]
      dsimp only
      rw [if_neg (fun e => hq (.inl e)), if_neg hr, if_pos (fun e => hq (.inr e))]
theorem quotedL_of (B : UInt8 → List UInt8) (hB : ∀ c r, quotedL (B c ++ r) = (quotedL r).map fun p => (c :: p.1, p.2)) (s r : List UInt8) : quotedL (s.flatMap B ++ 34 :: r) = some (s, r) := by
  induction s with
  | nil => rw [List.flatMap_nil, List.nil_append, quotedL.eq_def]; rfl
  | cons c s ih => rw [List.flatMap_cons, List.append_assoc, hB, ih]; rfl
theorem quotedL_quote (s r : List UInt8) : quotedL (s.flatMap quoteB ++ 34 :: r) = some (s, r) := quotedL_of _ quotedL_byte s r
/-! words -/
def tokT (x : S88) : List UInt8 := if x.f1 = true then zau x.f0.data.toList else x.f0.data.toList
def TokOK (x : S88) : Prop := x.f1 = true ∨ (x.f0.data.toList ≠ [] ∧ (∀ c ∈ x.f0.data.toList, c ≠ 32) ∧ x.f0.data.toList.head? ≠ some 34)
/-- words, a blank between each and the next -/
def tokens (l : List S88) : List UInt8 := Lib.join (l.map tokT) [32]
theorem tokens_one (x : S88) : tokens [x] = tokT x := Lib.join_one _ _
theorem tokens_cons (x y : S88) (l : List S88) : tokens (x :: y :: l) = tokT x ++ 32 :: tokens (y :: l) := by
  unfold tokens
  rw [List.map_cons, List.map_cons, Lib.join_cons, Lib.join_cons]
  simp [Lib.joinTail]
theorem takeW_app (a b : List UInt8) (h : ∀ c ∈ a, c ≠ 32) (hb : b = [] ∨ ∃ r, b = 32 :: r) : (a ++ b).takeWhile notSp = a := by
  induction a with
  | nil =>
    rcases hb with rfl | ⟨r, rfl⟩
    · rfl
    · rfl
  | cons c a ih =>
    rw [List.cons_append, List.takeWhile_cons, if_pos (by simpa [notSp] using h c List.mem_cons_self), ih (fun d hd => h d (List.mem_cons_of_mem _ hd))]
theorem words_step (n : Nat) (x : S88) (hx : TokOK x) (b : List UInt8) (hb : b = [] ∨ ∃ r, b = 32 :: r) : wordsL (n + 1) (tokT x ++ b) = aftW (wordsL n) x b := by
  obtain ⟨t, q⟩ := x
  unfold tokT
  dsimp only
  cases q with
  | true =>
    rw [if_pos rfl, zau, List.cons_append, List.append_assoc, List.cons_append, List.nil_append, wordsL, List.head?_cons, if_pos rfl, List.tail_cons, quotedL_quote]
    dsimp only
    rw [bs_self]
  | false =>
    rw [if_neg (by simp)]
    rcases hx with h | ⟨h1, h2, h3⟩
    · simp at h
    · dsimp only at h1 h2 h3
      have hw := takeW_app t.data.toList b h2 hb
      have hh : (t.data.toList ++ b).head? = t.data.toList.head? := by
        cases he : t.data.toList with
        | nil => exact absurd he h1
        | cons c r => rfl
      rw [wordsL, if_neg (by rw [hh]; exact h3), hw, if_neg h1, List.drop_left, bs_self]
theorem words_tokens : ∀ (l : List S88) (n : Nat), l ≠ [] → (∀ x ∈ l, TokOK x) → l.length ≤ n → wordsL n (tokens l) = (l, true)
  | [], n, h, _, _ => absurd rfl h
  | [x], n, _, hx, hn => by
    obtain ⟨m, rfl⟩ : ∃ m, n = m + 1 := ⟨n - 1, by simp at hn; omega⟩
    have := words_step m x (hx x List.mem_cons_self) [] (.inl rfl)
    rw [List.append_nil] at this
    rw [tokens_one, this]
    rfl
  | x :: y :: l, n, _, hx, hn => by
    obtain ⟨m, rfl⟩ : ∃ m, n = m + 1 := ⟨n - 1, by simp at hn; omega⟩
    have ih := words_tokens (y :: l) m (by simp) (fun z hz => hx z (List.mem_cons_of_mem _ hz)) (by simp at hn ⊢; omega)
    rw [tokens_cons, words_step m x (hx x List.mem_cons_self) _ (.inr ⟨_, rfl⟩), aftW, if_pos rfl, ih, if_pos rfl]
theorem tokT_pos (x : S88) (h : TokOK x) : 1 ≤ (tokT x).length := by
  unfold tokT
  split
  · have := quoteL_len x.f0.data.toList; omega
  · rcases h with h | h
    · contradiction
    · exact List.length_pos_iff.2 h.1
theorem tokens_len : ∀ l : List S88, (∀ x ∈ l, TokOK x) → l.length ≤ (tokens l).length + 1
  | [], _ => by simp
  | [x], _ => by simp
  | x :: y :: l, h => by
    have ih := tokens_len (y :: l) (fun z hz => h z (List.mem_cons_of_mem _ hz))
    have := tokT_pos x (h x List.mem_cons_self)
    rw [tokens_cons, List.length_append, List.length_cons]
    simp only [List.length_cons] at ih ⊢
    omega
theorem wordsV_tokens (l : List S88) (h : l ≠ []) (hx : ∀ x ∈ l, TokOK x) : wordsV (tokens l) = (l, true) :=
  words_tokens l _ h hx (tokens_len l hx)
/-- a word without quotes; a quoted one -/
def wP (t : List UInt8) : S88 := ⟨bs t, false⟩
def wQ (s : ByteArray) : S88 := ⟨s, true⟩
theorem tokT_wP (t : List UInt8) : tokT (wP t) = t := by unfold tokT wP; simp [zbc]
theorem tokT_wQ (s : ByteArray) : tokT (wQ s) = zau s.data.toList := by unfold tokT wQ; simp
theorem ok_wQ (s : ByteArray) : TokOK (wQ s) := .inl rfl
theorem ok_num (n : Int) : TokOK (wP (Lib.itoa n)) := by
  refine .inr ⟨by rw [wP, zbc]; exact itoa_ne n, fun c hc => ?_, ?_⟩
  · rw [wP, zbc] at hc
    rcases itoa_mem hc with rfl | h
    · decide
    · intro e; subst e; simp at h
  · rw [wP, zbc]
    cases he : Lib.itoa n with
    | nil => simp
    | cons c r =>
      rw [List.head?_cons]
      intro e
      have hm : c ∈ Lib.itoa n := by rw [he]; exact List.mem_cons_self
      simp only [Option.some.injEq] at e
      subst e
      rcases itoa_mem hm with h | h
      · exact absurd h (by decide)
      · simp at h
theorem nextV_wQ (s : ByteArray) (r : List S88) (br : Bool) : nextV true (wQ s :: r) br = (wQ s, r, br) := nextV_hit r br rfl
theorem numN_wP {n : Int} (h : I64 n) (r : List S88) (br : Bool) : numN (wP (Lib.itoa n) :: r) br = (n, r, br) := by
  unfold numN
  rw [nextV_hit r br (show (wP (Lib.itoa n)).f1 = false from rfl)]
  have := numV_itoa h
  dsimp only
  rw [show wP (Lib.itoa n) = ⟨bs (Lib.itoa n), false⟩ from rfl, this]
  simp
end Go.Proofs.YtdmlgligljagoaaDoor

set_option linter.unusedVariables false
set_option linter.unusedSimpArgs false
namespace Go.Proofs.YtdmlgligljagoaaDoor
open Go.RowKit

def renB : Go.Shelf.Ren := ⟨fun | 167 => 25 | n => Tryd.lays156_ren.f n, Tryd.lays156_ren.t, Tryd.lays156_ren.g⟩
theorem laysB : Go.Proofs.Lays.n167 Tryd.prog renB := {
  mixed := Tryd.lays156.mixed
  f167 := Tryd.func25.trans (congrArg some (by kernel_rfl))
  f240 := Tryd.lays156.f240.trans (congrArg some (by kernel_rfl))
  f276 := Tryd.lays156.f276.trans (congrArg some (by kernel_rfl))
  t0 := Tryd.lays156.t0
  a0 := Tryd.lays156.a0
  z0 := Tryd.lays156.z0
  v0 := Tryd.lays156.v0
  t4 := Tryd.lays156.t4
  a4 := Tryd.lays156.a4
  z4 := Tryd.lays156.z4
  v4 := Tryd.lays156.v4
  t5 := Tryd.Builder_Extra_156.t5
  a5 := Tryd.Builder_Extra_156.a5
  z5 := Tryd.Builder_Extra_156.z5
  v5 := Tryd.Builder_Extra_156.v5
  t9 := Tryd.lays156.t9
  a9 := Tryd.lays156.a9
  z9 := Tryd.lays156.z9
  v9 := Tryd.lays156.v9
  t20 := Tryd.lays156.t20
  a20 := Tryd.lays156.a20
  z20 := Tryd.lays156.z20
  v20 := Tryd.lays156.v20
  t37 := Tryd.lays156.t37
  a37 := Tryd.lays156.a37
  z37 := Tryd.lays156.z37
  v37 := Tryd.lays156.v37
  t70 := Tryd.lays156.t70
  a70 := Tryd.lays156.a70
  z70 := Tryd.lays156.z70
  v70 := Tryd.lays156.v70
  t72 := Tryd.lays156.t72
  a72 := Tryd.lays156.a72
  z72 := Tryd.lays156.z72
  v72 := Tryd.lays156.v72
  t75 := Tryd.lays156.t75
  a75 := Tryd.lays156.a75
  z75 := Tryd.lays156.z75
  v75 := Tryd.lays156.v75
  t164 := Tryd.lays156.t164
  a164 := Tryd.lays156.a164
  z164 := Tryd.lays156.z164
  v164 := Tryd.lays156.v164 }
theorem extraB : Builder.Extra Tryd.prog renB := {
  sizeBuilder := by kernel_rfl
  liesBuilder := by kernel_rfl
  t5 := Tryd.Builder_Extra_156.t5
  a5 := Tryd.Builder_Extra_156.a5
  z5 := Tryd.Builder_Extra_156.z5
  v5 := Tryd.Builder_Extra_156.v5
  infoByte := by kernel_rfl
  cellsByte := by kernel_rfl
  sizeByte := by kernel_rfl
  neB5 := by decide }
/-- a builder in block b, one of the call's own (from block B on), that holds the text l -/
def Bld (B b : Nat) (l : List UInt8) (w : World) : Prop := Lib.IsBuilderF 61 5 B b (Lib.byteCells l) w
theorem strCells_bs (l : List UInt8) : Lib.strCells (bs l) = Lib.byteCells l := by rw [Lib.strCells_eq, zbc]
theorem bld_str (B b : Nat) (l s : List UInt8) (w : World) (h : Bld B b l w) (hl : l.length + s.length ≤ 140737488355328) (hB : B ≤ w.heap.size) :
    Calls Tryd.prog 24 #[.pointer (some ⟨b, 0, none⟩), .string (bs s)] w fun e w' => e = .returned (.tuple #[.int .i64 s.length, .nilIface]) ∧ Bld B b (l ++ s) w' ∧ Below B w w' := by
  have hlen : (Lib.byteCells l).length + (bs s).size ≤ 140737488355328 := by rw [Lib.byteCells_length, zao]; exact hl
  refine (Any.Builder_WriteString_f { Tryd.lays156 with } Tryd.Builder_Extra_156 B b (Lib.byteCells l) (bs s) w h hlen hB).mono ?_
  rintro e w' ⟨rfl, h1, h2⟩
  refine ⟨by rw [zao], ?_, h2⟩
  unfold Bld
  rw [Lib.byteCells_append, ← strCells_bs s]
  exact .inr h1
theorem bld_byte (B b : Nat) (l : List UInt8) (c : UInt8) (x : Int) (hx : x = (c.toNat : Int)) (w : World) (h : Bld B b l w) (hl : l.length + 1 ≤ 140737488355328) (hB : B ≤ w.heap.size) :
    Calls Tryd.prog 25 #[.pointer (some ⟨b, 0, none⟩), .int .u8 x] w fun e w' => e = .returned .nilIface ∧ Bld B b (l ++ [c]) w' ∧ Below B w w' := by
  subst hx
  have hlen : (Lib.byteCells l).length + 1 ≤ 140737488355328 := by rw [Lib.byteCells_length]; exact hl
  refine (Any.Builder_WriteByte_k laysB extraB B b (Lib.byteCells l) (c.toNat : Int) w h hlen hB).mono ?_
  rintro e w' ⟨rfl, h1, h2, h3⟩
  refine ⟨rfl, ?_, h2⟩
  unfold Bld
  rw [Lib.byteCells_append]
  exact .inr h1
theorem bld_told (B b : Nat) (l : List UInt8) (w : World) (h : Bld B b l w) (hB : B ≤ w.heap.size) :
    Calls Tryd.prog 27 #[.pointer (some ⟨b, 0, none⟩)] w fun e w' => e = .returned (.string (bs l)) ∧ Bld B b l w' ∧ Below B w w' := by
  refine (Any.Builder_String_any_f { Tryd.lays156 with } Tryd.Builder_Extra_156 B b l w h hB).mono ?_
  rintro e w' ⟨rfl, h1, h2⟩
  exact ⟨rfl, h1, h2⟩
theorem bld_new (w : World) : Bld w.heap.size w.heap.size [] (w.alloc (.cells #[.pointer none, .slice none 0 0] 61)) :=
  Lib.IsBuilderF.of (.inl ⟨Nat.le_refl _, _, heap_alloc_new _ _, ⟨by simp [Lib.byteCells], .inl ⟨rfl, rfl⟩⟩, by simp [Value.ownBlock]⟩)
theorem bld_below {B b : Nat} {l : List UInt8} {w W : World} (h : Bld B b l w) (hb : Below w.heap.size w W) : Bld B b l W := by
  have go : ∀ p, Lib.BuilderAtF 61 5 B b p (Lib.byteCells l) w → Lib.BuilderAtF 61 5 B b p (Lib.byteCells l) W := by
    rintro p ⟨h0, v, h1, ⟨h2, h3⟩, h4⟩
    refine ⟨h0, v, (hb.block b (Array.getElem?_eq_some_iff.1 h1).1).trans h1, ⟨h2, ?_⟩, h4⟩
    rcases h3 with h3 | ⟨g, cap, cur, fr, e1, e2, e3, r⟩
    · exact .inl h3
    · exact .inr ⟨g, cap, cur, fr, e1, e2, (hb.block g (Array.getElem?_eq_some_iff.1 e3).1).trans e3, r⟩
  exact h.elim (fun x => .inl (go _ x)) (fun x => .inr (go _ x))
end Go.Proofs.YtdmlgligljagoaaDoor

set_option linter.unusedVariables false
set_option linter.unusedSimpArgs false
namespace Go.Proofs.YtdmlgligljagoaaDoor
open Go.RowKit Go.Proofs.YtdmlgligljagoaaDoorW.PrintWords
namespace PS
def strconv_Itoa.f (a0 : Int) : Option (ByteArray) := if -9223372036854775808 ≤ a0 ∧ a0 ≤ 9223372036854775807 then some (bs (Lib.itoa a0)) else none
theorem strconv_Itoa.calls (a0 : Int) (r : ByteArray) (w : World) (hT : Tab w) (h : strconv_Itoa.f a0 = some r) :
    Calls Tryd.prog 22 #[.int .i64 a0] w fun e w' => e = .returned (.string r) ∧ Below w.heap.size w w' := by
  unfold strconv_Itoa.f at h
  split at h
  · next hc =>
    cases h
    obtain ⟨h0, h1⟩ := hc
    refine (Tryd.strconv_Itoa a0 h0 h1 w hT.ten).mono ?_
    rintro e w' ⟨rfl, hg⟩
    exact ⟨rfl, below_grow hg⟩
  · cases h
end PS
end Go.Proofs.YtdmlgligljagoaaDoor

set_option linter.unusedVariables false
set_option linter.unusedSimpArgs false
namespace Go.Proofs.YtdmlgligljagoaaDoor
open Go.RowKit Go.Proofs.YtdmlgligljagoaaDoorW.PrintWords PS

def pairT (p : S38) : List ByteArray := [bs (zau p.f0.data.toList), bs (zau p.f1.data.toList)]
def partV (c : Nat) (s : S34) : List ByteArray :=
  if c = 98 then [bs (zau s.f1.data.toList)] else if c = 107 then [bs (zau s.f2.data.toList)] else if c = 100 then [bs (zau s.f3.data.toList)]
  else if c = 115 then [bs (Lib.itoa s.f5)] else if c = 110 then [bs (Lib.itoa s.f6)]
  else if c = 109 then s.f4.flatMap pairT else s.f7.map fun n => bs (Lib.itoa n)
def partsV (f : List UInt8) (s : S34) : List ByteArray := f.flatMap fun c => partV c.toNat s
theorem partsV_cons (f : ByteArray) (i : Nat) (h : i < f.size) (s : S34) : partsV (f.data.toList.drop i) s = partV (f[i]'h).toNat s ++ partsV (f.data.toList.drop (i + 1)) s := by
  rw [List.drop_eq_getElem_cons (show i < f.data.toList.length by simpa using h), partsV, List.flatMap_cons]
  rfl
def joinSp (l : List ByteArray) : ByteArray := bs (Lib.join (l.map (·.data.toList)) [32])
/-- what holds while a step's parts are laid -/
structure Sx (w wx : World) (b I : Nat) (s : S34) (v4 v7 : Value) (f : ByteArray) (i : Nat) (v : Value) (l : List ByteArray) : Prop where
  it : wx.heap[I]? = some (.stringIter f i)
  box : wx.heap[b]? = some (.cells (stCells s v4 v7) 34 (0, 0))
  r : Kd.R Kd.string 9 wx w.heap.size (fun k => k ≠ I) v l
  below : Below w.heap.size w wx
section
variable {w wx W : World} {b I i : Nat} {f : ByteArray} {s : S34} {v4 v7 v : Value} {l : List ByteArray}
theorem Sx.made (h : Sx w wx b I s v4 v7 f i v l) (hb : Below wx.heap.size wx W) : Sx w W b I s v4 v7 f i v l :=
  ⟨zaz h.it hb, zaz h.box hb, Kd.R_below h.r hb, h.below.trans (hb.mono h.below.size)⟩
theorem Sx.next (h : Sx w wx b I s v4 v7 f i v l) (hbI : b ≠ I) (hI : w.heap.size ≤ I) (n : Nat) : Sx w (wx.iterAt I f n) b I s v4 v7 f n v l := by
  have ho : ∀ k, k ≠ I → (wx.iterAt I f n).heap[k]? = wx.heap[k]? := fun k hk => Lib.iterAt_other wx I k f n hk
  refine ⟨Lib.iterAt_heap wx I f i n h.it, (ho b hbI).trans h.box, Kd.R_step h.r (fun k hk _ => ho k hk), ?_⟩
  exact ⟨h.below.os, h.below.tape, h.below.output, by rw [Lib.iterAt_size]; exact h.below.size, fun k hk => (ho k (by omega)).trans (h.below.block k hk)⟩
theorem Sx.app {v1 : Value} {l1 : List ByteArray} (h : Sx w wx b I s v4 v7 f i v l) (hg : wx.grownBy W v.ownBlock) (hR : Kd.R Kd.string 9 W w.heap.size (fun k => k ≠ I) v1 l1) (hB : Below w.heap.size w W) : Sx w W b I s v4 v7 f i v1 l1 :=
  ⟨zbk h.it hg (fun e => h.r.1 I e.symm rfl), zbk h.box hg (Kd.R_ne h.r h.box (by decide)), hR, hB⟩
end
theorem mem_size {l : List ByteArray} {x : ByteArray} (h : x ∈ l) : x.size ≤ Lib.lens (l.map (·.data.toList)) := by
  induction l with
  | nil => simp at h
  | cons a l ih =>
    rw [List.map_cons]
    have e : Lib.lens (a.data.toList :: l.map (·.data.toList)) = a.size + Lib.lens (l.map (·.data.toList)) := by unfold Lib.lens; rw [List.map_cons, List.sum_cons, ← Lib.size_eq]
    rw [e]
    rcases List.mem_cons.1 h with rfl | h
    · omega
    · have := ih h; omega
theorem join_bounds (l : List ByteArray) (B : Nat) (h : (joinSp l).size ≤ B) : l.length ≤ B + 1 ∧ ∀ x ∈ l, x.size ≤ B := by
  unfold joinSp at h
  rw [zao] at h
  cases l with
  | nil => simp
  | cons a l =>
    rw [List.map_cons, Lib.join_length] at h
    simp only [List.length_map, List.length_cons, List.length_nil] at h
    refine ⟨by simp only [List.length_cons]; omega, fun x hx => ?_⟩
    have := mem_size hx
    rw [List.map_cons] at this
    omega
/-- a step's line, if it is not too long -/
def stepL (s : S34) : ByteArray := match script_formOf.f s.f0 with
  | some (wd, f) => joinSp (wd :: partsV f.data.toList s)
  | none => ⟨#[]⟩
namespace PS
def script_stepText.f (a0_0 : Int) (a0_1 : ByteArray) (a0_2 : ByteArray) (a0_3 : ByteArray) (l0_4 : List (S38)) (a0_5 : Int) (a0_6 : Int) (l0_7 : List Int) : Option (ByteArray) :=
  if (stepL ⟨a0_0, a0_1, a0_2, a0_3, l0_4, a0_5, a0_6, l0_7⟩).size ≤ 2147483648 ∧ (-9223372036854775808 ≤ a0_5 ∧ a0_5 ≤ 9223372036854775807) ∧ (-9223372036854775808 ≤ a0_6 ∧ a0_6 ≤ 9223372036854775807) ∧ (∀ x ∈ l0_7, -9223372036854775808 ≤ x ∧ x ≤ 9223372036854775807) then some (stepL ⟨a0_0, a0_1, a0_2, a0_3, l0_4, a0_5, a0_6, l0_7⟩) else none
end PS
theorem form_any (k : Int) : ∃ wd f, script_formOf.f k = some (wd, f) ∧ Letters f := by
  by_cases h : 1 ≤ k ∧ k ≤ 18
  · obtain ⟨n, hn⟩ := Int.eq_ofNat_of_zero_le (show 0 ≤ k - 1 by omega)
    obtain rfl : k = ((n + 1 : Nat) : Int) := by omega
    exact form_all n (by omega)
  · refine ⟨⟨#[]⟩, ⟨#[]⟩, ?_, fun j h => absurd h (by simp [ByteArray.size])⟩
    unfold script_formOf.f
    repeat rw [if_neg (by omega)]
theorem Sx.start {w w1 : World} (s : S34) (v4 v7 : Value) (wd f : ByteArray) (hb : Below (w.alloc (.cells (stCells s v4 v7) 34)).heap.size (w.alloc (.cells (stCells s v4 v7) 34)) w1) :
    Sx w (((w1.alloc (.cells #[.string wd, .string f] 94)).alloc (.cells #[.string wd] 9)).iter f 0) w.heap.size (w1.heap.size + 1 + 1) s v4 v7 f 0 (.slice (some ⟨w1.heap.size + 1, 0, none⟩) 1 1) [wd] := by
  have hz : (w1.alloc (.cells #[.string wd, .string f] 94)).heap.size = w1.heap.size + 1 := by simp
  have hz2 : ((w1.alloc (.cells #[.string wd, .string f] 94)).alloc (.cells #[.string wd] 9)).heap.size = w1.heap.size + 1 + 1 := by simp
  have hs : w.heap.size + 1 ≤ w1.heap.size := by have := hb.size; simpa using this
  have hR : Kd.R Kd.string 9 ((w1.alloc (.cells #[.string wd, .string f] 94)).alloc (.cells #[.string wd] 9)) _ _ _ _ := R_texts (w1.alloc (.cells #[.string wd, .string f] 94)) [wd] 1 rfl (by decide) 9
  rw [hz] at hR
  have hB1 : Below w.heap.size w w1 := (((Below.refl w.heap.size w).alloc (Nat.le_refl _) _)).trans (hb.mono (by simp))
  have hW : Below w.heap.size w (((w1.alloc (.cells #[.string wd, .string f] 94)).alloc (.cells #[.string wd] 9)).iter f 0) := by
    have := ((hB1.alloc hB1.size (.cells #[.string wd, .string f] 94)).alloc (by simp; omega) (.cells #[.string wd] 9)).alloc (by simp; omega) (.stringIter f 0)
    simpa [World.iter] using this
  have hI : Below ((w1.alloc (.cells #[.string wd, .string f] 94)).alloc (.cells #[.string wd] 9)).heap.size ((w1.alloc (.cells #[.string wd, .string f] 94)).alloc (.cells #[.string wd] 9)) (((w1.alloc (.cells #[.string wd, .string f] 94)).alloc (.cells #[.string wd] 9)).iter f 0) := by
    have := (Below.refl ((w1.alloc (.cells #[.string wd, .string f] 94)).alloc (.cells #[.string wd] 9)).heap.size ((w1.alloc (.cells #[.string wd, .string f] 94)).alloc (.cells #[.string wd] 9))).alloc (Nat.le_refl _) (.stringIter f 0)
    simpa [World.iter] using this
  have hbox : w1.heap[w.heap.size]? = some (.cells (stCells s v4 v7) 34 (0, 0)) := zaz (blk_new _ _) hb
  refine ⟨?_, ?_, ?_, hW⟩
  · have := World.iter_heap ((w1.alloc (.cells #[.string wd, .string f] 94)).alloc (.cells #[.string wd] 9)) f 0
    rwa [hz2] at this
  · exact zaz (zag (zag hbox _) _) hI
  · exact Kd.R_below (Kd.R_lower (Kd.R_mono (Kd.R_bound hR) (fun k hk => by have := hk.2.2.1; rw [hz2] at this; omega)) (by omega)) hI
theorem pair_len (l : List S38) : (l.flatMap pairT).length = 2 * l.length := by
  induction l with
  | nil => rfl
  | cons p l ih => rw [List.flatMap_cons, List.length_append, ih, List.length_cons]; simp [pairT]; omega
theorem two_read (W : World) (a b : ByteArray) : Kd.C Kd.string (W.alloc (.cells #[.string a, .string b] 9)) (some ⟨W.heap.size, 0, none⟩) 2 [a, b] := by
  obtain ⟨A, c, e, _, h⟩ := Kd.R_reads (R_texts W [a, b] 2 rfl (by decide) 9)
  cases e
  exact h
set_option maxRecDepth 100000 in
set_option maxHeartbeats 8000000 in
theorem stepText_any (s : S34) (A4 A7 : Option Addr) (c4 c7 : Nat) (w : World) (h4 : Kd.C k38 w A4 s.f4.length s.f4) (h7 : Kd.C (Kd.int .i64) w A7 s.f7.length s.f7) (hT : Tab w)
    (h5 : -9223372036854775808 ≤ s.f5 ∧ s.f5 ≤ 9223372036854775807) (h6 : -9223372036854775808 ≤ s.f6 ∧ s.f6 ≤ 9223372036854775807) (hk : ∀ x ∈ s.f7, -9223372036854775808 ≤ x ∧ x ≤ 9223372036854775807) (hs : (stepL s).size ≤ 2147483648) :
    Calls Tryd.prog 35 #[.agg #[.int .i64 s.f0, .string s.f1, .string s.f2, .string s.f3, .slice A4 s.f4.length c4, .int .i64 s.f5, .int .i64 s.f6, .slice A7 s.f7.length c7]] w fun e w' => e = .returned (.string (stepL s)) ∧ Below w.heap.size w w' := by
  obtain ⟨wd, f, hf, hL⟩ := form_any s.f0
  have hE : stepL s = joinSp (wd :: partsV f.data.toList s) := by unfold stepL; rw [hf]
  rw [hE] at hs ⊢
  obtain ⟨hn, hx⟩ := join_bounds _ _ hs
  have HS0 := Lib.hid hs
  have HX := Lib.hid hx
  obtain ⟨all, hall⟩ : ∃ all, all = wd :: partsV f.data.toList s := ⟨_, rfl⟩
  rw [← hall] at HS0 HX hn ⊢
  have HA := Lib.hid hall
  have HF := fun W => Lib.hid (script_formOf.calls s.f0 wd f W hf)
  have HL := Lib.hid hL
  have H4 := Lib.hid h4
  have H7 := Lib.hid h7
  have HT := Lib.hid hT
  have HK := Lib.hid hk
  obtain ⟨h50, h51⟩ := h5
  obtain ⟨h60, h61⟩ := h6
  clear hs hx hf hL hE hall h4 h7 hT hk
  go_enter Tryd.func35, Tryd.ntmps35
  go_wp2_with fail
  refine (HF _).out.mono ?_
  rintro e w1 ⟨rfl, hb1⟩
  have hs1 : w.heap.size + 1 ≤ w1.heap.size := by have := hb1.size; simpa using this
  have HS := Lib.hid (Sx.start s _ _ wd f hb1)
  clear hb1
  go_wp2_with fail
  go_loopg [4] f.size (fun gk u4 wx => ∃ (i : Nat) (v : Value) (l : List ByteArray), i + gk = f.size ∧ v = u4 ∧ Hid (Sx w wx w.heap.size (w1.heap.size + 1 + 1) s (.slice A4 s.f4.length c4) (.slice A7 s.f7.length c7) f i v l) ∧ Hid (l ++ partsV (f.data.toList.drop i) s = all) ∧ l ≠ [])
  case atStart => exact ⟨0, _, _, by omega, rfl, HS, by rw [List.drop_zero]; exact HA.out.symm, by simp⟩
  case round =>
    obtain ⟨i, v, l, hig, rfl, HSx, HEx, hne⟩ := hrel
    cases gk with
    | zero =>
      obtain rfl : i = f.size := by omega
      have hnx := fun ty => Lib.run_next_end_at (P := Tryd.prog) wr (w1.heap.size + 1 + 1) f f.size ty HSx.out.it (by omega)
      have hE2 : l = all := by have := HEx.out; rwa [List.drop_of_length_le (by simp), show partsV [] s = [] from rfl, List.append_nil] at this
      obtain ⟨g, cp, rfl, _, hg, _⟩ := Kd.R_form HSx.out.r (List.length_pos_iff.2 hne)
      have HR := Lib.hid HSx.out.r
      have hcap : l.length ≤ cp := by obtain ⟨A, c, e, h, _⟩ := Kd.R_reads HSx.out.r; cases e; exact h
      have hcells : Hid (∀ (j : Nat) x, l[j]? = some x → wr.cell? ⟨g, 0 + j, none⟩ = some (.string x)) := Lib.hid (fun j x hj => by
        have hjl : j < l.length := (List.getElem?_eq_some_iff.1 hj).1
        have := (Kd.R_cell (ByteArray.empty) HR.out (j : Int) (by omega) (by omega)).1
        rw [Int.toNat_natCast] at this
        rw [Nat.zero_add, this, rdOf, Int.toNat_natCast, List.getD_eq_getElem?_getD, hj]
        rfl)
      have HJ := Lib.hid (Tryd.strings_Join g 0 cp l (⟨#[32]⟩ : ByteArray) wr hcells.out hg (by rw [hE2]; omega) hcap (by have := HS0.out; rw [← hE2] at this; unfold joinSp at this; rw [zao] at this; exact Nat.le_trans this (by decide)))
      have HB := Lib.hid HSx.out.below
      have HF2 : Hid ((⟨(Lib.join (l.map (·.data.toList)) (⟨#[32]⟩ : ByteArray).data.toList).toArray⟩ : ByteArray) = joinSp all) := by rw [hE2]; rfl
      clear hE2 hcap hg
      go_wp2_with fail
      refine HJ.out.mono ?_
      rintro e w2 ⟨rfl, hb2⟩
      go_wp2
      go_ret
      exact ⟨ret_str HF2.out, HB.out.trans (hb2.mono HB.out.size)⟩
    | succ go =>
      have hi : i < f.size := by omega
      have hlet := HL.out i hi
      have HS1 := Lib.hid (HSx.out.next (by omega) (by omega) (i + 1))
      have hE1 := HEx.out
      rw [partsV_cons f i hi] at hE1
      rcases hlet with (hq | hq | hq | hq | hq) | ⟨hq | hq, hend⟩
      · have ha : partV (f[i]'hi).toNat s = [bs (zau s.f1.data.toList)] := by rw [hq]; rfl
        rw [ha] at hE1
        have hnx := fun ty => Lib.run_next_ascii_at (P := Tryd.prog) wr (w1.heap.size + 1 + 1) f i ty HSx.out.it hi (by omega)
        simp only [hq] at hnx
        have HE1 : Hid ((l ++ [bs (zau s.f1.data.toList)]) ++ partsV (f.data.toList.drop (i + 1)) s = all) := Lib.hid (by rw [List.append_assoc]; exact hE1)
        have hlen : l.length + 1 ≤ all.length := by have := congrArg List.length HE1.out; simp only [List.length_append, List.length_singleton] at this; omega
        have hsz := HX.out (bs (zau s.f1.data.toList)) (by rw [← HE1.out]; simp)
        have hqs := quoteL_len s.f1.data.toList; rw [zao] at hsz; rw [← Lib.size_eq] at hqs
        have c1 : (wr.iterAt (w1.heap.size + 1 + 1) f (i + 1)).cell? ⟨w.heap.size, 1, none⟩ = some (.string s.f1) := zaa HS1.out.box 1
        have HC := Lib.hid (quoteS_any s.f1 (wr.iterAt (w1.heap.size + 1 + 1) f (i + 1)) (by omega))
        generalize bs (zau s.f1.data.toList) = tx at *
        clear hE1 ha hq hsz
        go_wp2_with fail
        refine HC.out.mono ?_
        rintro e w2 ⟨rfl, hb2⟩
        have HS2 := Lib.hid (HS1.out.made hb2)
        clear hb2
        have hIlt : w1.heap.size + 1 + 1 < w2.heap.size := blk_lt HS2.out.it
        go_wp2_with (at_builtin; refine Kd.R_append Kd.string (w0 := w) w.heap.size rfl (.tmp 39) (.tmp 43) 70 9 (.string ⟨#[]⟩) 16 rfl Tryd.underlying70 info9 rfl (by decide) (by decide) v l tx [.string tx] (fun k => k ≠ w1.heap.size + 1 + 1) (fun _ => False) rfl rfl ?aP (fun _ hk => hk.elim) ?aF HS2.out.r HS2.out.below HS2.out.below.size ?aL ?_; (case aP => exact rfl); (case aF => exact (fun k hk => by omega)); (case aL => omega); intro v1 w4 hR hB hg4 hat; have HS4 := Lib.hid (HS2.out.app hg4 hR hB); clear hR hB hg4 hat)
        go_roundg go
        case measure => omega
        case rel => exact ⟨i + 1, v1, l ++ [tx], by omega, rfl, HS4, HE1, by simp⟩
      · have ha : partV (f[i]'hi).toNat s = [bs (zau s.f2.data.toList)] := by rw [hq]; rfl
        rw [ha] at hE1
        have hnx := fun ty => Lib.run_next_ascii_at (P := Tryd.prog) wr (w1.heap.size + 1 + 1) f i ty HSx.out.it hi (by omega)
        simp only [hq] at hnx
        have HE1 : Hid ((l ++ [bs (zau s.f2.data.toList)]) ++ partsV (f.data.toList.drop (i + 1)) s = all) := Lib.hid (by rw [List.append_assoc]; exact hE1)
        have hlen : l.length + 1 ≤ all.length := by have := congrArg List.length HE1.out; simp only [List.length_append, List.length_singleton] at this; omega
        have hsz := HX.out (bs (zau s.f2.data.toList)) (by rw [← HE1.out]; simp)
        have hqs := quoteL_len s.f2.data.toList; rw [zao] at hsz; rw [← Lib.size_eq] at hqs
        have c1 : (wr.iterAt (w1.heap.size + 1 + 1) f (i + 1)).cell? ⟨w.heap.size, 2, none⟩ = some (.string s.f2) := zaa HS1.out.box 2
        have HC := Lib.hid (quoteS_any s.f2 (wr.iterAt (w1.heap.size + 1 + 1) f (i + 1)) (by omega))
        generalize bs (zau s.f2.data.toList) = tx at *
        clear hE1 ha hq hsz
        go_wp2_with fail
        refine HC.out.mono ?_
        rintro e w2 ⟨rfl, hb2⟩
        have HS2 := Lib.hid (HS1.out.made hb2)
        clear hb2
        have hIlt : w1.heap.size + 1 + 1 < w2.heap.size := blk_lt HS2.out.it
        go_wp2_with (at_builtin; refine Kd.R_append Kd.string (w0 := w) w.heap.size rfl (.tmp 47) (.tmp 51) 70 9 (.string ⟨#[]⟩) 16 rfl Tryd.underlying70 info9 rfl (by decide) (by decide) v l tx [.string tx] (fun k => k ≠ w1.heap.size + 1 + 1) (fun _ => False) rfl rfl ?aP (fun _ hk => hk.elim) ?aF HS2.out.r HS2.out.below HS2.out.below.size ?aL ?_; (case aP => exact rfl); (case aF => exact (fun k hk => by omega)); (case aL => omega); intro v1 w4 hR hB hg4 hat; have HS4 := Lib.hid (HS2.out.app hg4 hR hB); clear hR hB hg4 hat)
        go_roundg go
        case measure => omega
        case rel => exact ⟨i + 1, v1, l ++ [tx], by omega, rfl, HS4, HE1, by simp⟩
      · have ha : partV (f[i]'hi).toNat s = [bs (zau s.f3.data.toList)] := by rw [hq]; rfl
        rw [ha] at hE1
        have hnx := fun ty => Lib.run_next_ascii_at (P := Tryd.prog) wr (w1.heap.size + 1 + 1) f i ty HSx.out.it hi (by omega)
        simp only [hq] at hnx
        have HE1 : Hid ((l ++ [bs (zau s.f3.data.toList)]) ++ partsV (f.data.toList.drop (i + 1)) s = all) := Lib.hid (by rw [List.append_assoc]; exact hE1)
        have hlen : l.length + 1 ≤ all.length := by have := congrArg List.length HE1.out; simp only [List.length_append, List.length_singleton] at this; omega
        have hsz := HX.out (bs (zau s.f3.data.toList)) (by rw [← HE1.out]; simp)
        have hqs := quoteL_len s.f3.data.toList; rw [zao] at hsz; rw [← Lib.size_eq] at hqs
        have c1 : (wr.iterAt (w1.heap.size + 1 + 1) f (i + 1)).cell? ⟨w.heap.size, 3, none⟩ = some (.string s.f3) := zaa HS1.out.box 3
        have HC := Lib.hid (quoteS_any s.f3 (wr.iterAt (w1.heap.size + 1 + 1) f (i + 1)) (by omega))
        generalize bs (zau s.f3.data.toList) = tx at *
        clear hE1 ha hq hsz
        go_wp2_with fail
        refine HC.out.mono ?_
        rintro e w2 ⟨rfl, hb2⟩
        have HS2 := Lib.hid (HS1.out.made hb2)
        clear hb2
        have hIlt : w1.heap.size + 1 + 1 < w2.heap.size := blk_lt HS2.out.it
        go_wp2_with (at_builtin; refine Kd.R_append Kd.string (w0 := w) w.heap.size rfl (.tmp 55) (.tmp 59) 70 9 (.string ⟨#[]⟩) 16 rfl Tryd.underlying70 info9 rfl (by decide) (by decide) v l tx [.string tx] (fun k => k ≠ w1.heap.size + 1 + 1) (fun _ => False) rfl rfl ?aP (fun _ hk => hk.elim) ?aF HS2.out.r HS2.out.below HS2.out.below.size ?aL ?_; (case aP => exact rfl); (case aF => exact (fun k hk => by omega)); (case aL => omega); intro v1 w4 hR hB hg4 hat; have HS4 := Lib.hid (HS2.out.app hg4 hR hB); clear hR hB hg4 hat)
        go_roundg go
        case measure => omega
        case rel => exact ⟨i + 1, v1, l ++ [tx], by omega, rfl, HS4, HE1, by simp⟩
      · have ha : partV (f[i]'hi).toNat s = [bs (Lib.itoa s.f5)] := by rw [hq]; rfl
        rw [ha] at hE1
        have hnx := fun ty => Lib.run_next_ascii_at (P := Tryd.prog) wr (w1.heap.size + 1 + 1) f i ty HSx.out.it hi (by omega)
        simp only [hq] at hnx
        have HE1 : Hid ((l ++ [bs (Lib.itoa s.f5)]) ++ partsV (f.data.toList.drop (i + 1)) s = all) := Lib.hid (by rw [List.append_assoc]; exact hE1)
        have hlen : l.length + 1 ≤ all.length := by have := congrArg List.length HE1.out; simp only [List.length_append, List.length_singleton] at this; omega
        have hsz := HX.out (bs (Lib.itoa s.f5)) (by rw [← HE1.out]; simp)
        skip
        have c1 : (wr.iterAt (w1.heap.size + 1 + 1) f (i + 1)).cell? ⟨w.heap.size, 5, none⟩ = some (.int .i64 s.f5) := zaa HS1.out.box 5
        have HC := Lib.hid (strconv_FormatInt.calls s.f5 10 (bs (Lib.itoa s.f5)) (wr.iterAt (w1.heap.size + 1 + 1) f (i + 1)) (zba HT.out HS1.out.below) (by unfold strconv_FormatInt.f; rw [if_pos ⟨rfl, h50, h51⟩]))
        generalize bs (Lib.itoa s.f5) = tx at *
        clear hE1 ha hq hsz
        go_wp2_with fail
        refine HC.out.mono ?_
        rintro e w2 ⟨rfl, hb2⟩
        have HS2 := Lib.hid (HS1.out.made hb2)
        clear hb2
        have hIlt : w1.heap.size + 1 + 1 < w2.heap.size := blk_lt HS2.out.it
        go_wp2_with (at_builtin; refine Kd.R_append Kd.string (w0 := w) w.heap.size rfl (.tmp 63) (.tmp 67) 70 9 (.string ⟨#[]⟩) 16 rfl Tryd.underlying70 info9 rfl (by decide) (by decide) v l tx [.string tx] (fun k => k ≠ w1.heap.size + 1 + 1) (fun _ => False) rfl rfl ?aP (fun _ hk => hk.elim) ?aF HS2.out.r HS2.out.below HS2.out.below.size ?aL ?_; (case aP => exact rfl); (case aF => exact (fun k hk => by omega)); (case aL => omega); intro v1 w4 hR hB hg4 hat; have HS4 := Lib.hid (HS2.out.app hg4 hR hB); clear hR hB hg4 hat)
        go_roundg go
        case measure => omega
        case rel => exact ⟨i + 1, v1, l ++ [tx], by omega, rfl, HS4, HE1, by simp⟩
      · have ha : partV (f[i]'hi).toNat s = [bs (Lib.itoa s.f6)] := by rw [hq]; rfl
        rw [ha] at hE1
        have hnx := fun ty => Lib.run_next_ascii_at (P := Tryd.prog) wr (w1.heap.size + 1 + 1) f i ty HSx.out.it hi (by omega)
        simp only [hq] at hnx
        have HE1 : Hid ((l ++ [bs (Lib.itoa s.f6)]) ++ partsV (f.data.toList.drop (i + 1)) s = all) := Lib.hid (by rw [List.append_assoc]; exact hE1)
        have hlen : l.length + 1 ≤ all.length := by have := congrArg List.length HE1.out; simp only [List.length_append, List.length_singleton] at this; omega
        have hsz := HX.out (bs (Lib.itoa s.f6)) (by rw [← HE1.out]; simp)
        skip
        have c1 : (wr.iterAt (w1.heap.size + 1 + 1) f (i + 1)).cell? ⟨w.heap.size, 6, none⟩ = some (.int .i64 s.f6) := zaa HS1.out.box 6
        have HC := Lib.hid (strconv_Itoa.calls s.f6 (bs (Lib.itoa s.f6)) (wr.iterAt (w1.heap.size + 1 + 1) f (i + 1)) (zba HT.out HS1.out.below) (by unfold strconv_Itoa.f; rw [if_pos ⟨h60, h61⟩]))
        generalize bs (Lib.itoa s.f6) = tx at *
        clear hE1 ha hq hsz
        go_wp2_with fail
        refine HC.out.mono ?_
        rintro e w2 ⟨rfl, hb2⟩
        have HS2 := Lib.hid (HS1.out.made hb2)
        clear hb2
        have hIlt : w1.heap.size + 1 + 1 < w2.heap.size := blk_lt HS2.out.it
        go_wp2_with (at_builtin; refine Kd.R_append Kd.string (w0 := w) w.heap.size rfl (.tmp 71) (.tmp 75) 70 9 (.string ⟨#[]⟩) 16 rfl Tryd.underlying70 info9 rfl (by decide) (by decide) v l tx [.string tx] (fun k => k ≠ w1.heap.size + 1 + 1) (fun _ => False) rfl rfl ?aP (fun _ hk => hk.elim) ?aF HS2.out.r HS2.out.below HS2.out.below.size ?aL ?_; (case aP => exact rfl); (case aF => exact (fun k hk => by omega)); (case aL => omega); intro v1 w4 hR hB hg4 hat; have HS4 := Lib.hid (HS2.out.app hg4 hR hB); clear hR hB hg4 hat)
        go_roundg go
        case measure => omega
        case rel => exact ⟨i + 1, v1, l ++ [tx], by omega, rfl, HS4, HE1, by simp⟩
      · have ha : partV (f[i]'hi).toNat s = s.f4.flatMap pairT := by rw [hq]; rfl
        rw [ha] at hE1
        have hnx := fun ty => Lib.run_next_ascii_at (P := Tryd.prog) wr (w1.heap.size + 1 + 1) f i ty HSx.out.it hi (by omega)
        simp only [hq] at hnx
        have hfl : s.f4.length ≤ all.length := by have := congrArg List.length hE1; simp only [List.length_append, pair_len] at this; omega
        have HE1 := Lib.hid hE1
        have c1 : (wr.iterAt (w1.heap.size + 1 + 1) f (i + 1)).cell? ⟨w.heap.size, 4, none⟩ = some (.slice A4 s.f4.length c4) := zaa HS1.out.box 4
        clear hE1 ha hq hend
        go_wp2_with fail
        go_loopg [4, 82] s.f4.length (fun gm u4 u82 wx => ∃ (j : Nat) (v2 : Value) (l2 : List ByteArray), j + gm = s.f4.length ∧ u82 = .int .i64 j ∧ v2 = u4 ∧ Hid (Sx w wx w.heap.size (w1.heap.size + 1 + 1) s (.slice A4 s.f4.length c4) (.slice A7 s.f7.length c7) f (i + 1) v2 l2) ∧ Hid (l2 ++ ((s.f4.drop j).flatMap pairT ++ partsV (f.data.toList.drop (i + 1)) s) = all) ∧ l2 ≠ [])
        case atStart => exact ⟨0, v, l, by omega, rfl, rfl, HS1, by rw [List.drop_zero]; exact HE1, hne⟩
        case round =>
          obtain ⟨j, v2, l2, hjg, rfl, rfl, HSm, HEm, hne2⟩ := hrel
          cases gk with
          | zero =>
            obtain rfl : j = s.f4.length := by omega
            have HEf : Hid (l2 ++ partsV (f.data.toList.drop (i + 1)) s = all) := Lib.hid (by have := HEm.out; rwa [List.drop_of_length_le (Nat.le_refl _), List.flatMap_nil, List.nil_append] at this)
            go_wp2
            go_roundg go
            case measure => omega
            case rel => exact ⟨i + 1, v2, l2, by omega, rfl, HSm, HEf, hne2⟩
          | succ gm =>
            have hj : j < s.f4.length := by omega
            obtain ⟨ad, hA, a0, a1⟩ := at_T38 (Kd.C_below H4.out HSm.out.below) (j : Int) (by omega) (by omega)
            have hrd : rd_T38 s.f4 (j : Int) = s.f4[j]'hj := by unfold rd_T38; simp [hj]
            rw [Int.toNat_natCast, hrd] at a0 a1
            have hE2 := HEm.out
            rw [List.drop_eq_getElem_cons hj, List.flatMap_cons, pairT] at hE2
            generalize s.f4[j] = p at a0 a1 hE2
            have HE2 : Hid ((l2 ++ [bs (zau p.f0.data.toList), bs (zau p.f1.data.toList)]) ++ ((s.f4.drop (j + 1)).flatMap pairT ++ partsV (f.data.toList.drop (i + 1)) s) = all) := Lib.hid (by simpa only [List.append_assoc] using hE2)
            have hlen : l2.length + 2 ≤ all.length := by have := congrArg List.length HE2.out; simp only [List.length_append, List.length_cons, List.length_nil] at this; omega
            have hq0 := HX.out (bs (zau p.f0.data.toList)) (by rw [← HE2.out]; simp)
            have hq1 := HX.out (bs (zau p.f1.data.toList)) (by rw [← HE2.out]; simp)
            have hk0 := quoteL_len p.f0.data.toList
            have hk1 := quoteL_len p.f1.data.toList
            rw [zao] at hq0 hq1
            rw [← Lib.size_eq] at hk0 hk1
            have HQ0 := fun W => Lib.hid (quoteS_any p.f0 W (by omega))
            have HQ1 := fun W => Lib.hid (quoteS_any p.f1 W (by omega))
            generalize bs (zau p.f0.data.toList) = q0 at *
            generalize bs (zau p.f1.data.toList) = q1 at *
            clear hE2 hq0 hq1 hk0 hk1 hrd
            have hIlt : w1.heap.size + 1 + 1 < wr.heap.size := blk_lt HSm.out.it
            subst hA
            go_wp2_with fail
            go_region_law (first | (go_simp; have _t := HS2; go_at_call 13; refine (HQ1 _).out.mono ?_; rintro e w3 ⟨rfl, hb3⟩; have HS3 := Lib.hid ((HS2.out.made hb3).made ((Below.refl w3.heap.size w3).alloc (Nat.le_refl _) (.cells #[.string q0, .string q1] 9))); clear hb3 _t) | (go_simp; go_at_call 13; refine (HQ0 _).out.mono ?_; rintro e w2 ⟨rfl, hb2⟩; have hb0 := below_drewN ((Below.refl wr.heap.size wr).alloc (Nat.le_refl _) (.cells #[.string p.f0, .string p.f1] 38)) 1; have HS2 := Lib.hid (HSm.out.made (hb0.trans (hb2.mono hb0.size))); have hbx : w2.heap[wr.heap.size]? = some (.cells #[.string p.f0, .string p.f1] 38 (0, 0)) := zaz (w := (wr.alloc (.cells #[.string p.f0, .string p.f1] 38)).drewN 1) (blk_new wr _) hb2; have n1 : w2.cell? ⟨wr.heap.size, 1, none⟩ = some (.string p.f1) := zaa hbx 1; have n2 : ∀ n, (w2.drewN n).cell? ⟨wr.heap.size, 1, none⟩ = some (.string p.f1) := fun n => n1; clear hb2 hb0 hbx) | (refine Kd.R_append_rows_step Kd.string (w0 := w) w.heap.size rfl (.tmp 86) (.tmp 93) 70 9 (.string ⟨#[]⟩) 16 rfl Tryd.underlying70 info9 rfl (by decide) (by decide) v2 l2 [q0, q1] (some ⟨w3.heap.size, 0, none⟩) 2 2 (fun k => k ≠ w1.heap.size + 1 + 1) (fun _ => False) rfl rfl HS3.out.r (two_read w3 q0 q1) (fun _ _ h => h) (fun _ hk => hk.elim) ?aF HS3.out.below HS3.out.below.size ?aL ?_; (case aF => exact (fun k hk => by have := blk_lt HS3.out.it; omega)); (case aL => omega); intro v1 w4 hR hB hg4 hat; have HS4 := Lib.hid (HS3.out.app hg4 hR hB); clear hR hB hg4 hat))
            all_goals
              go_wp2
              go_roundg gm
              case measure => omega
              case rel => exact ⟨j + 1, v1, l2 ++ [q0, q1], by omega, by go_num, rfl, HS4, HE2, by simp⟩
      · have ha : partV (f[i]'hi).toNat s = s.f7.map (fun n => bs (Lib.itoa n)) := by rw [hq]; rfl
        rw [ha] at hE1
        have hnx := fun ty => Lib.run_next_ascii_at (P := Tryd.prog) wr (w1.heap.size + 1 + 1) f i ty HSx.out.it hi (by omega)
        simp only [hq] at hnx
        have hfl : s.f7.length ≤ all.length := by have := congrArg List.length hE1; simp only [List.length_append, List.length_map] at this; omega
        have HE1 := Lib.hid hE1
        have c1 : (wr.iterAt (w1.heap.size + 1 + 1) f (i + 1)).cell? ⟨w.heap.size, 7, none⟩ = some (.slice A7 s.f7.length c7) := zaa HS1.out.box 7
        clear hE1 ha hq hend
        go_wp2_with fail
        go_loopg [4, 27] s.f7.length (fun gm u4 u27 wx => ∃ (j : Nat) (v2 : Value) (l2 : List ByteArray), j + gm = s.f7.length ∧ u27 = .int .i64 j ∧ v2 = u4 ∧ Hid (Sx w wx w.heap.size (w1.heap.size + 1 + 1) s (.slice A4 s.f4.length c4) (.slice A7 s.f7.length c7) f (i + 1) v2 l2) ∧ Hid (l2 ++ ((s.f7.drop j).map (fun n => bs (Lib.itoa n)) ++ partsV (f.data.toList.drop (i + 1)) s) = all) ∧ l2 ≠ [])
        case atStart => exact ⟨0, v, l, by omega, rfl, rfl, HS1, by rw [List.drop_zero]; exact HE1, hne⟩
        case round =>
          obtain ⟨j, v2, l2, hjg, rfl, rfl, HSm, HEm, hne2⟩ := hrel
          cases gk with
          | zero =>
            obtain rfl : j = s.f7.length := by omega
            have HEf : Hid (l2 ++ partsV (f.data.toList.drop (i + 1)) s = all) := Lib.hid (by have := HEm.out; rwa [List.drop_of_length_le (Nat.le_refl _), List.map_nil, List.nil_append] at this)
            go_wp2
            go_roundg go
            case measure => omega
            case rel => exact ⟨i + 1, v2, l2, by omega, rfl, HSm, HEf, hne2⟩
          | succ gm =>
            have hj : j < s.f7.length := by omega
            obtain ⟨ad, hA, a0⟩ := Kd.at_int (Kd.C_below H7.out HSm.out.below) (j : Int) (by omega) (by omega)
            have hrd : rd s.f7 (j : Int) = s.f7[j]'hj := by unfold rd; simp [hj]
            rw [Int.toNat_natCast, hrd] at a0
            have hE2 := HEm.out
            rw [List.drop_eq_getElem_cons hj, List.map_cons] at hE2
            obtain ⟨hb0, hb1⟩ := HK.out _ (List.getElem_mem hj)
            generalize s.f7[j] = p at a0 hE2 hb0 hb1
            have HE2 : Hid ((l2 ++ [bs (Lib.itoa p)]) ++ ((s.f7.drop (j + 1)).map (fun n => bs (Lib.itoa n)) ++ partsV (f.data.toList.drop (i + 1)) s) = all) := Lib.hid (by rw [List.append_assoc]; exact hE2)
            have hlen : l2.length + 1 ≤ all.length := by have := congrArg List.length HE2.out; simp only [List.length_append, List.length_singleton] at this; omega
            have HC := Lib.hid (strconv_Itoa.calls p (bs (Lib.itoa p)) wr (zba HT.out HSm.out.below) (by unfold strconv_Itoa.f; rw [if_pos ⟨hb0, hb1⟩]))
            generalize bs (Lib.itoa p) = tx at *
            clear hE2 hrd
            subst hA
            go_wp2_with fail
            refine HC.out.mono ?_
            rintro e w2 ⟨rfl, hb2⟩
            have HS2 := Lib.hid (HSm.out.made hb2)
            clear hb2
            have hIlt : w1.heap.size + 1 + 1 < w2.heap.size := blk_lt HS2.out.it
            go_wp2_with (at_builtin; refine Kd.R_append Kd.string (w0 := w) w.heap.size rfl (.tmp 31) (.tmp 34) 70 9 (.string ⟨#[]⟩) 16 rfl Tryd.underlying70 info9 rfl (by decide) (by decide) v2 l2 tx [.string tx] (fun k => k ≠ w1.heap.size + 1 + 1) (fun _ => False) rfl rfl ?aP (fun _ hk => hk.elim) ?aF HS2.out.r HS2.out.below HS2.out.below.size ?aL ?_; (case aP => exact rfl); (case aF => exact (fun k hk => by omega)); (case aL => omega); intro v1 w4 hR hB hg4 hat; have HS4 := Lib.hid (HS2.out.app hg4 hR hB); clear hR hB hg4 hat)
            go_roundg gm
            case measure => omega
            case rel => exact ⟨j + 1, v1, l2 ++ [tx], by omega, by go_num, rfl, HS4, HE2, by simp⟩
namespace PS
theorem script_stepText.calls (a0_0 : Int) (a0_1 : ByteArray) (a0_2 : ByteArray) (a0_3 : ByteArray) (A0_4 : Option Addr) (c0_4 : Nat) (l0_4 : List (S38)) (a0_5 : Int) (a0_6 : Int) (A0_7 : Option Addr) (c0_7 : Nat) (l0_7 : List Int) (r : ByteArray) (w : World) (hr0_4 : Kd.C k38 w A0_4 l0_4.length l0_4) (hc0_4 : l0_4.length ≤ c0_4) (hr0_7 : Kd.C (Kd.int .i64) w A0_7 l0_7.length l0_7) (hc0_7 : l0_7.length ≤ c0_7) (hT : Tab w) (h : script_stepText.f a0_0 a0_1 a0_2 a0_3 l0_4 a0_5 a0_6 l0_7 = some r) :
    Calls Tryd.prog 35 #[.agg #[.int .i64 a0_0, .string a0_1, .string a0_2, .string a0_3, .slice A0_4 l0_4.length c0_4, .int .i64 a0_5, .int .i64 a0_6, .slice A0_7 l0_7.length c0_7]] w fun e w' => e = .returned (.string r) ∧ Below w.heap.size w w' := by
  unfold script_stepText.f at h
  split at h
  · next hc =>
    cases h
    obtain ⟨h1, h2, h3, h4⟩ := hc
    exact stepText_any ⟨a0_0, a0_1, a0_2, a0_3, l0_4, a0_5, a0_6, l0_7⟩ A0_4 A0_7 c0_4 c0_7 w hr0_4 hr0_7 hT h2 h3 h4 h1
  · cases h
end PS
end Go.Proofs.YtdmlgligljagoaaDoor
