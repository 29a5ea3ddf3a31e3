/- The reader of the program: skip and part: what each call computes. -/
import Derived.Test.YtigppjgmfonodaaLexF
import Derived.Test.YtigppjgmfonodaaLexN
import Derived.Test.YtigppjgmfonodaaShelf
import Derived.Deep.DeepCutAuto
namespace Go.Proofs.Ytigppjgmfonodaa
open Go.RowKit

def rdCells (s : ByteArray) (k : Int) : Array Value := #[.string s, .int .i64 k, .func (.func 67) #[.agg #[.int .u8 97, .int .u8 122]] #[], .func (.func 67) #[.agg #[.int .u8 48, .int .u8 57]] #[], .func (.func 67) #[.agg #[.int .u8 95, .int .u8 95]] #[]]
/-- The reader lies in block b. -/
def RdAt (w : World) (b : Nat) (s : ByteArray) (k : Int) : Prop := w.heap[b]? = some (.cells (rdCells s k) 97 (0, 0))

theorem cell_of_blk {w : World} {b : Nat} {C : Array Value} {t : TypeId} {fr : Nat × Nat} (h : w.heap[b]? = some (.cells C t fr)) (i : Nat) : w.cell? ⟨b, i, none⟩ = C[i]? := by
  simp [World.cell?, h]
theorem frozen_of_blk {w : World} {b : Nat} {C : Array Value} {t : TypeId} (h : w.heap[b]? = some (.cells C t (0, 0))) (i : Nat) : w.frozen? ⟨b, i, none⟩ = false := by
  simp [World.frozen?, h]
theorem lt_of_blk {w : World} {b : Nat} {o : Obj} (h : w.heap[b]? = some o) : b < w.heap.size := by
  rcases Nat.lt_or_ge b w.heap.size with h1 | h1
  · exact h1
  · rw [Array.getElem?_eq_none h1] at h; cases h

theorem RdAt.cells {w : World} {b : Nat} {s : ByteArray} {k : Int} (h : RdAt w b s k) :
    w.cell? ⟨b, 0, none⟩ = some (.string s) ∧ w.cell? ⟨b, 1, none⟩ = some (.int .i64 k) ∧ w.frozen? ⟨b, 1, none⟩ = false :=
  ⟨cell_of_blk h 0, cell_of_blk h 1, frozen_of_blk h 1⟩
theorem RdAt.tests {w : World} {b : Nat} {s : ByteArray} {k : Int} (h : RdAt w b s k) :
    w.cell? ⟨b, 2, none⟩ = some (.func (.func 67) #[.agg #[.int .u8 97, .int .u8 122]] #[]) ∧ w.cell? ⟨b, 3, none⟩ = some (.func (.func 67) #[.agg #[.int .u8 48, .int .u8 57]] #[]) ∧ w.cell? ⟨b, 4, none⟩ = some (.func (.func 67) #[.agg #[.int .u8 95, .int .u8 95]] #[]) :=
  ⟨cell_of_blk h 2, cell_of_blk h 3, cell_of_blk h 4⟩
theorem RdAt.below {W w1 : World} {b : Nat} {s : ByteArray} {k : Int} (hb : Below W.heap.size W w1) (h : RdAt W b s k) : RdAt w1 b s k := (hb.block b (lt_of_blk h)).trans h
theorem RdAt.set {w : World} {b : Nat} {s : ByteArray} {k : Int} (h : RdAt w b s k) (k' : Int) : RdAt (w.setCell ⟨b, 1, none⟩ (.int .i64 k')) b s k' := by
  have h' := h
  unfold RdAt at h h' ⊢
  simp only [World.setCell, Array.getElem?_modify, h', if_true, Option.map_some]
  rfl
/-- Of the old blocks only b may have changed. -/
theorem only_below {a w w1 : World} {b : Nat} (h : a.grownBy w (some b)) (hb : Below w.heap.size w w1) : a.grownBy w1 (some b) :=
  ⟨hb.os.trans h.os, hb.tape.trans h.tape, hb.output.trans h.output, Nat.le_trans h.size hb.size, fun i hi hn => (hb.block i (Nat.lt_of_lt_of_le hi h.size)).trans (h.block i hi hn)⟩
theorem only_set {a w : World} {b : Nat} (h : a.grownBy w (some b)) (o : Nat) (u : Value) : a.grownBy (w.setCell ⟨b, o, none⟩ u) (some b) :=
  ⟨h.os, h.tape, h.output, by simpa [World.setCell] using h.size, fun i hi hne => (Below.heap_setCell w ⟨b, o, none⟩ u i (by rintro rfl; exact hne rfl)).trans (h.block i hi hne)⟩
theorem only_refl (w : World) (r : Option Nat) : w.grownBy w r := World.grownBy.refl w _
theorem only_trans {a b c : World} {r : Nat} (h : a.grownBy b (some r)) (k : b.grownBy c (some r)) : a.grownBy c (some r) :=
  ⟨k.os.trans h.os, k.tape.trans h.tape, k.output.trans h.output, Nat.le_trans h.size k.size, fun i hi hn => (k.block i (Nat.lt_of_lt_of_le hi h.size) hn).trans (h.block i hi hn)⟩
/-- Where the reader stands. -/
def posOf (w : World) (b : Nat) : Nat := match w.cell? ⟨b, 1, none⟩ with | some (.int _ n) => n.toNat | _ => 0
theorem posOf_eq {w : World} {b : Nat} {s : ByteArray} {k : Nat} (h : RdAt w b s k) : posOf w b = k := by
  unfold posOf; rw [h.cells.2.1]; simp

set_option maxHeartbeats 1000000 in
theorem part_rd (b : Nat) (s : ByteArray) (k : Int) (c : UInt8) (w : World) (hR : RdAt w b s k) :
    Calls Try.prog 68 #[.pointer (some ⟨b, 0, none⟩), .int .u8 (c.toNat : Int)] w fun e w' => e = .returned (.bool (partB c)) ∧ Below w.heap.size w w' := by
  obtain ⟨t0, t1, t2⟩ := hR.tests
  have hcase : (97 ≤ (c.toNat : Int) ∧ (c.toNat : Int) ≤ 122) ∨ ((c.toNat : Int) < 97 ∨ 122 < (c.toNat : Int)) := by omega
  have hcase2 : (48 ≤ (c.toNat : Int) ∧ (c.toNat : Int) ≤ 57) ∨ ((c.toNat : Int) < 48 ∨ 57 < (c.toNat : Int)) := by omega
  have hcase3 : (95 ≤ (c.toNat : Int) ∧ (c.toNat : Int) ≤ 95) ∨ ((c.toNat : Int) < 95 ∨ 95 < (c.toNat : Int)) := by omega
  have hlt := lt_of_blk hR
  rcases hcase with hc | hc
  · have HF : Hid (partB c = true) := Lib.hid (by simp [partB, letterB_of hc])
    go_enter Try.func68, Try.ntmps68
    go_wp2_with (go_at_call 67; refine (has_yes _ _ _ _ (by omega)).mono ?_; rintro e w1 ⟨rfl, hb1⟩)
    go_ret
    exact ⟨ret_bool HF.out.symm, hb1⟩
  · rcases hcase2 with hd | hd
    · have HF : Hid (partB c = true) := Lib.hid (by simp [partB, digitB_of hd])
      go_enter Try.func68, Try.ntmps68
      go_wp2_with fail
      refine (has_no _ _ _ _ (by omega)).mono ?_
      rintro e w1 ⟨rfl, hb1⟩
      have u1 := below_cell hb1 t1
      go_wp2_with fail
      refine (has_yes _ _ _ _ (by omega)).mono ?_
      rintro e w2 ⟨rfl, hb2⟩
      go_wp2
      go_ret
      exact ⟨ret_bool HF.out.symm, hb1.trans (hb2.mono hb1.size)⟩
    · rcases hcase3 with hu | hu
      · have HF : Hid (partB c = true) := Lib.hid (by simp [partB, underB_of hu])
        go_enter Try.func68, Try.ntmps68
        go_wp2_with fail
        refine (has_no _ _ _ _ (by omega)).mono ?_
        rintro e w1 ⟨rfl, hb1⟩
        have u1 := below_cell hb1 t1
        have u2 := below_cell hb1 t2
        go_wp2_with fail
        refine (has_no _ _ _ _ (by omega)).mono ?_
        rintro e w2 ⟨rfl, hb2⟩
        have v2 := below_cell hb2 u2
        go_wp2_with fail
        refine (has_yes _ _ _ _ (by omega)).mono ?_
        rintro e w3 ⟨rfl, hb3⟩
        go_wp2
        go_ret
        have h2 := hb1.trans (hb2.mono hb1.size)
        exact ⟨ret_bool HF.out.symm, h2.trans (hb3.mono h2.size)⟩
      · have HF : Hid (partB c = false) := Lib.hid (by simp [partB, letterB_not hc, digitB_not hd, underB_not hu])
        go_enter Try.func68, Try.ntmps68
        go_wp2_with fail
        refine (has_no _ _ _ _ (by omega)).mono ?_
        rintro e w1 ⟨rfl, hb1⟩
        have u1 := below_cell hb1 t1
        have u2 := below_cell hb1 t2
        go_wp2_with fail
        refine (has_no _ _ _ _ (by omega)).mono ?_
        rintro e w2 ⟨rfl, hb2⟩
        have v2 := below_cell hb2 u2
        go_wp2_with fail
        refine (has_no _ _ _ _ (by omega)).mono ?_
        rintro e w3 ⟨rfl, hb3⟩
        go_wp2
        go_ret
        have h2 := hb1.trans (hb2.mono hb1.size)
        exact ⟨ret_bool HF.out.symm, h2.trans (hb3.mono h2.size)⟩
end Go.Proofs.Ytigppjgmfonodaa
