/- The reader of the program: next: what a call does. -/
import Derived.Test.YtigppjgmfonodaaLexH
import Derived.BigRegion
import Derived.Deep.CutBlock
import Derived.Deep.RegionHeld3
namespace Go.Proofs.Ytigppjgmfonodaa
open Go.RowKit

theorem drop_at {s : ByteArray} {k e : Nat} (h : e < s.size) (hk : k ≤ e) {h' : e - k < (s.data.toList.drop k).length} : (s.data.toList.drop k)[e - k] = s[e] := by
  rw [List.getElem_drop]
  simp only [show k + (e - k) = e from by omega]
  rfl
/-- A token lies in block t. -/
def TokAt (w : World) (t : Nat) (kd : Int) (tx : ByteArray) (k : Int) : Prop := w.heap[t]? = some (.cells #[.int .i64 kd, .string tx, .int .i64 k] 23 (0, 0))
theorem TokAt.cells {w : World} {t : Nat} {kd k : Int} {tx : ByteArray} (h : TokAt w t kd tx k) :
    w.cell? ⟨t, 0, none⟩ = some (.int .i64 kd) ∧ w.cell? ⟨t, 1, none⟩ = some (.string tx) ∧ w.cell? ⟨t, 2, none⟩ = some (.int .i64 k) :=
  ⟨cell_of_blk h 0, cell_of_blk h 1, cell_of_blk h 2⟩
theorem TokAt.free {w : World} {t : Nat} {kd k : Int} {tx : ByteArray} (h : TokAt w t kd tx k) :
    w.frozen? ⟨t, 0, none⟩ = false ∧ w.frozen? ⟨t, 1, none⟩ = false ∧ w.frozen? ⟨t, 2, none⟩ = false :=
  ⟨frozen_of_blk h 0, frozen_of_blk h 1, frozen_of_blk h 2⟩
theorem TokAt.below {W w1 : World} {t : Nat} {kd k : Int} {tx : ByteArray} (hb : Below W.heap.size W w1) (h : TokAt W t kd tx k) : TokAt w1 t kd tx k := (hb.block t (lt_of_blk h)).trans h

theorem tok_new (w : World) (kd : Int) (tx : ByteArray) (k : Int) : TokAt (w.alloc (.cells #[.int .i64 kd, .string tx, .int .i64 k] 23)) w.heap.size kd tx k := heap_alloc_new w _
theorem has_letter (c : UInt8) (w : World) : Calls Try.prog 67 #[.agg #[.int .u8 97, .int .u8 122], .int .u8 (c.toNat : Int)] w fun e w' => e = .returned (.bool (letterB c)) ∧ Below w.heap.size w w' :=
  (has_any 97 122 _ w).mono fun e w' ⟨he, hw⟩ => ⟨he, by rw [← hw]; exact (Below.refl _ _).alloc (Nat.le_refl _) _⟩
theorem has_digit (c : UInt8) (w : World) : Calls Try.prog 67 #[.agg #[.int .u8 48, .int .u8 57], .int .u8 (c.toNat : Int)] w fun e w' => e = .returned (.bool (digitB c)) ∧ Below w.heap.size w w' :=
  (has_any 48 57 _ w).mono fun e w' ⟨he, hw⟩ => ⟨he, by rw [← hw]; exact (Below.refl _ _).alloc (Nat.le_refl _) _⟩

theorem TokAt.set0 {w : World} {t : Nat} {kd k : Int} {tx : ByteArray} (h : TokAt w t kd tx k) (kd' : Int) : TokAt (w.setCell ⟨t, 0, none⟩ (.int .i64 kd')) t kd' tx k := by
  have h' := h
  unfold TokAt at h h' ⊢
  simp only [World.setCell, Array.getElem?_modify, h', if_true, Option.map_some]
  rfl
theorem TokAt.set1 {w : World} {t : Nat} {kd k : Int} {tx : ByteArray} (h : TokAt w t kd tx k) (tx' : ByteArray) : TokAt (w.setCell ⟨t, 1, none⟩ (.string tx')) t kd tx' k := by
  have h' := h
  unfold TokAt at h h' ⊢
  simp only [World.setCell, Array.getElem?_modify, h', if_true, Option.map_some]
  rfl
/-- What is known of a world, in the world's place. -/
theorem wp_world {P : Program} {c : Code} {Q : Exit → Act → World → Prop} {a : Act} {W : World} (F : World → Prop) (h : F W) (k : ∀ w', F w' → c.wp P Q a w') : c.wp P Q a W := k W h

theorem words_cells_d (w : World) (j : Nat) (h : j < 23) : (w.alloc (.cells wordCells 9)).drew.cell? ⟨w.heap.size, j, none⟩ = some (.string (wordList.getD j ByteArray.empty)) := words_cells w j h
theorem signs_cells_d (w : World) (j : Nat) (h : j < 21) : (w.alloc (.cells signCells 9)).drew.cell? ⟨w.heap.size, j, none⟩ = some (.string (signList.getD j ByteArray.empty)) := signs_cells w j h

theorem oneT_letter {s : ByteArray} {k : Nat} (hk : k < s.size) (h : letterB s[k] = true) :
    oneT (s.data.toList.drop k) = (if memL wordBytes ((s.data.toList.drop k).takeWhile partB) then 2 else 1, (s.data.toList.drop k).takeWhile partB) := by
  have hh : (s.data.toList.drop k).head? = some s[k] := by rw [List.head?_drop, List.getElem?_eq_getElem (by simpa using hk)]; rfl
  rw [oneT, hh, if_pos (by simpa using h)]
theorem oneT_digit {s : ByteArray} {k : Nat} (hk : k < s.size) (h : letterB s[k] = false) (h2 : digitB s[k] = true) :
    oneT (s.data.toList.drop k) = (3, (s.data.toList.drop k).takeWhile partB) := by
  have hh : (s.data.toList.drop k).head? = some s[k] := by rw [List.head?_drop, List.getElem?_eq_getElem (by simpa using hk)]; rfl
  rw [oneT, hh, if_neg (by simp [h]), if_pos (by simpa using h2)]
theorem oneT_sign {s : ByteArray} {k : Nat} (hk : k < s.size) (h : letterB s[k] = false) (h2 : digitB s[k] = false) :
    oneT (s.data.toList.drop k) = (4, if memL signBytes ((s.data.toList.drop k).take 2) then (s.data.toList.drop k).take 2 else (s.data.toList.drop k).take 1) := by
  have hh : (s.data.toList.drop k).head? = some s[k] := by rw [List.head?_drop, List.getElem?_eq_getElem (by simpa using hk)]; rfl
  rw [oneT, hh, if_neg (by simp [h]), if_neg (by simp [h2])]

theorem extract_two {s : ByteArray} {k : Nat} (hk : k < s.size) : (s.extract k (min ((k : Int) + 2) s.size).toNat).data.toList = (s.data.toList.drop k).take 2 := by
  rw [extract_list]
  show (s.data.toList.drop k).take _ = _
  rcases Nat.lt_or_ge s.size (k + 2) with h | h
  · rw [List.take_of_length_le (by simp; omega), List.take_of_length_le (by simp; omega)]
  · rw [show (min ((k : Int) + 2) s.size).toNat - k = 2 from by omega]
theorem two_size {s x : ByteArray} {k : Nat} (hk : k < s.size) (h : x.data.toList = (s.data.toList.drop k).take 2) : 1 ≤ x.size := by
  have h1 : x.data.toList.length = x.size := by simp
  rw [h] at h1
  simp at h1
  omega

theorem one_size {s tx : ByteArray} {k : Nat} (h : tx.data.toList = (oneT (s.data.toList.drop k)).2) : tx.size ≤ s.size - k := by
  have h1 : tx.data.toList.length = tx.size := by simp
  have h2 : (oneT (s.data.toList.drop k)).2.length ≤ (s.data.toList.drop k).length := by
    have h3 : ((s.data.toList.drop k).takeWhile partB).length ≤ (s.data.toList.drop k).length := (List.takeWhile_sublist _).length_le
    have h4 : ∀ n, ((s.data.toList.drop k).take n).length ≤ (s.data.toList.drop k).length := fun n => List.length_take_le' _ _
    unfold oneT
    split
    · exact h3
    · split
      · exact h3
      · split
        · exact h4 2
        · exact h4 1
  rw [← h, h1] at h2
  simpa using h2

def CutRel (s : ByteArray) (k : Nat) (w1 w' : World) : Prop :=
  ∃ tx : ByteArray, TokAt w' w1.heap.size (oneT (s.data.toList.drop k)).1 tx k ∧ tx.data.toList = (oneT (s.data.toList.drop k)).2 ∧ Below w1.heap.size w1 w'

/-- What a call of next leaves: the token and the reader behind it; or the panic of a malformed token. -/
def NextPost (b : Nat) (s : ByteArray) (k : Nat) (w : World) (e : Ending) (w' : World) : Prop :=
  (rightB (oneT (s.data.toList.drop k)).1 (oneT (s.data.toList.drop k)).2 = true ∧ ∃ tx : ByteArray, tx.data.toList = (oneT (s.data.toList.drop k)).2 ∧
    e = .returned (.agg #[.int .i64 (oneT (s.data.toList.drop k)).1, .string tx, .int .i64 k]) ∧ RdAt w' b s ((k : Int) + (oneT (s.data.toList.drop k)).2.length) ∧ w.grownBy w' (some b)) ∨
  (rightB (oneT (s.data.toList.drop k)).1 (oneT (s.data.toList.drop k)).2 = false ∧ e = .panicked [{ v := .iface 64 (.agg #[.int .i64 k]), recovered := false }] ∧ w.grownBy w' (some b))
theorem RdAt.far {w : World} {b t : Nat} {s : ByteArray} {k : Int} (h : RdAt w b s k) (hne : ¬ b = t) (o : Nat) (u : Value) : RdAt (w.setCell ⟨t, o, none⟩ u) b s k := (Below.heap_setCell w ⟨t, o, none⟩ u b hne).trans h
theorem TokAt.far {w : World} {b t : Nat} {kd k : Int} {tx : ByteArray} (h : TokAt w b kd tx k) (hne : ¬ b = t) (o : Nat) (u : Value) : TokAt (w.setCell ⟨t, o, none⟩ u) b kd tx k := (Below.heap_setCell w ⟨t, o, none⟩ u b hne).trans h
theorem TokAt.set2 {w : World} {t : Nat} {kd k : Int} {tx : ByteArray} (h : TokAt w t kd tx k) (k' : Int) : TokAt (w.setCell ⟨t, 2, none⟩ (.int .i64 k')) t kd tx k' := by
  have h' := h
  unfold TokAt at h h' ⊢
  simp only [World.setCell, Array.getElem?_modify, h', if_true, Option.map_some]
  rfl
theorem only_new {w w1 : World} (h : Below w.heap.size w w1) (b : Nat) : w.grownBy w1 (some b) := ⟨h.os, h.tape, h.output, h.size, fun i hi _ => h.block i hi⟩
theorem only_far {a w : World} {b t : Nat} (h : a.grownBy w (some b)) (ht : a.heap.size ≤ t) (o : Nat) (u : Value) : a.grownBy (w.setCell ⟨t, o, none⟩ u) (some b) :=
  ⟨h.os, h.tape, h.output, by simpa [World.setCell] using h.size, fun i hi hne => (Below.heap_setCell w ⟨t, o, none⟩ u i (by intro e; simp at e; omega)).trans (h.block i hi hne)⟩
theorem only_drew {a w : World} {row : Option Nat} (h : a.grownBy w row) : a.grownBy w.drew row := ⟨h.os, h.tape, h.output, h.size, h.block⟩
theorem alloc_trans {w w1 : World} {o : Obj} (h : Below (w.alloc o).heap.size (w.alloc o) w1) : Below w.heap.size w w1 :=
  ((Below.refl w.heap.size w).alloc (Nat.le_refl _) o).trans (h.mono (by simp))
theorem alloc_le {w w1 : World} {o : Obj} (h : Below (w.alloc o).heap.size (w.alloc o) w1) : w.heap.size ≤ w1.heap.size := by have := h.size; simp at this; omega
theorem size_list (s : ByteArray) : (s.size : Int) = (s.data.toList.length : Int) := by simp

def NextRel (s : ByteArray) (k : Nat) (w1 : World) (e : Value) (wr : World) : Prop :=
  ∃ e' : Nat, k ≤ e' ∧ e' ≤ s.size ∧ e = .int .i64 e' ∧ ((s.data.toList.drop k).take (e' - k)).all partB = true ∧ Below w1.heap.size w1 wr

set_option maxRecDepth 100000 in
set_option maxHeartbeats 4000000 in
theorem next_any (b : Nat) (s : ByteArray) (k : Nat) (w : World) (hs : s.size ≤ 1000000) (hk : k < s.size) (hR : RdAt w b s k) :
    Calls Try.prog 56 #[.pointer (some ⟨b, 0, none⟩)] w (NextPost b s k w) := by
  have hlb := lt_of_blk hR
  have HR := Lib.hid hR
  have e0 := hR.cells.1
  have e1 := hR.cells.2.1
  clear hR
  go_enter Try.func56, Try.ntmps56
  go_wp2
  have HR1 : Hid (RdAt (w.alloc (.cells #[.int .i64 0, .string ⟨#[]⟩, .int .i64 0] 23)) b s k) := Lib.hid (HR.out.below ((Below.refl _ _).alloc (Nat.le_refl _) _))
  clear e0 e1
  go_loopw [3] (fun e wr => NextRel s k (w.alloc (.cells #[.int .i64 0, .string ⟨#[]⟩, .int .i64 0] 23)) e wr) (fun e _ => s.size - (intOf e).toNat)
  case atStart => exact ⟨k, Nat.le_refl _, by omega, rfl, by simp, Below.refl _ _⟩
  case round =>
    obtain ⟨e, he1, he2, rfl, hall, hB⟩ := hrel
    have HRr := Lib.hid (HR1.out.below hB)
    have HA := Lib.hid hall
    have HB := Lib.hid hB
    have hBs := hB.size
    have e0 := HRr.out.cells.1
    have e1 := HRr.out.cells.2.1
    have ht := HRr.out.tests
    have HT := Lib.hid ht
    clear hall hB ht HR1 HR
    by_cases hmore : ∃ h : e < s.size, partB s[e] = true
    · obtain ⟨hlt, hp⟩ := hmore
      have HP := Lib.hid hp
      go_wp2_with (go_at_call 68; refine (part_rd _ _ _ _ _ HRr.out).mono ?_; rintro e' w1 ⟨rfl, hb1⟩)
      go_roundw
      case rel =>
        refine ⟨e + 1, by omega, by omega, by go_num, ?_, HB.out.trans (hb1.mono hBs)⟩
        rw [show e + 1 - k = (e - k) + 1 from by omega]
        exact wb_step (by simp; omega) HA.out (by rw [drop_at hlt he1]; exact HP.out)
      case measure => simp [intOf]; omega
    · have HW : Hid ((s.data.toList.drop k).takeWhile partB = (s.data.toList.drop k).take (e - k)) := Lib.hid (takeWhile_of (by simp; omega) HA.out (fun h' => by
        have hlt : e < s.size := by simp at h'; omega
        have : partB s[e] = false := by
          cases hp : partB s[e]
          · rfl
          · exact absurd ⟨hlt, hp⟩ hmore
        rw [drop_at hlt he1]; exact this))
      clear HT
      by_cases hlt : e < s.size
      · have hp : partB s[e] = false := by
          cases hp : partB s[e]
          · rfl
          · exact absurd ⟨hlt, hp⟩ hmore
        clear hmore
        go_wp2_with fail
        refine (part_rd _ _ _ _ _ HRr.out).mono ?_
        rintro e' w1 ⟨rfl, hb1⟩
        have hrr := HRr.out.below hb1
        have hbb := HB.out.trans (hb1.mono hBs)
        clear HRr HB e0 e1 hb1
        have HRr := Lib.hid hrr
        have HB := Lib.hid hbb
        have e0 := hrr.cells.1
        have e1 := hrr.cells.2.1
        clear hrr hbb
        go_wp2_with fail
        have HT := Lib.hid (tok_new w1 4 ⟨#[]⟩ k)
        have HR2 := Lib.hid (HRr.out.below ((Below.refl _ _).alloc (Nat.le_refl _) (.cells #[.int .i64 4, .string ⟨#[]⟩, .int .i64 (k : Int)] 23)))
        obtain ⟨w2, hw2⟩ : ∃ x, x = w1.alloc (.cells #[.int .i64 4, .string ⟨#[]⟩, .int .i64 (k : Int)] 23) := ⟨_, rfl⟩
        rw [← hw2] at HT HR2 ⊢
        have HB2 : Hid (Below w1.heap.size w1 w2) := Lib.hid (by rw [hw2]; exact (Below.refl _ _).alloc (Nat.le_refl _) _)
        clear hw2 e0 e1
        have d0 : ∀ x : Later w2, x.world.cell? ⟨b, 0, none⟩ = some (.string s) := later_cell HR2.out.cells.1
        have d1 : ∀ x : Later w2, x.world.cell? ⟨b, 1, none⟩ = some (.int .i64 (k : Int)) := later_cell HR2.out.cells.2.1
        go_wp2_with fail
        refine wp_region_later (by kernel_rfl) (by kernel_rfl) ?_
        repeat (go_big_quiet_step (fail))
        refine wpQuiet_nil ?_
        intro w3 hb3
        have HR3 := Lib.hid (HR2.out.below hb3)
        have HT3 := Lib.hid (HT.out.below hb3)
        have HB3 := Lib.hid (HB2.out.trans (hb3.mono HB2.out.size))
        clear d0 d1 hb3
        go_upto_block 2 with (fail)
        go_cut [] (fun w' => CutRel s k w1 w')
        case first =>
          have e0 := HR3.out.cells.1
          have e1 := HR3.out.cells.2.1
          have t0 := HR3.out.tests.1
          go_upto_if 83 with (go_at_call 67; refine (has_letter _ _).mono ?_; rintro e' w4 ⟨rfl, hb4⟩)
          have HR4 := Lib.hid (HR3.out.below hb4)
          have HT4 := Lib.hid (HT3.out.below hb4)
          have HB4 := Lib.hid (HB3.out.trans (hb4.mono HB3.out.size))
          clear e0 e1 t0 hb4
          cases hlet : letterB s[k]
          · have t1 := HR4.out.tests.2.1
            go_upto_if 110 with (go_at_call 67; refine (has_digit _ _).mono ?_; rintro e' w5 ⟨rfl, hb5⟩)
            have HR5 := Lib.hid (HR4.out.below hb5)
            have HT5 := Lib.hid (HT4.out.below hb5)
            have HB5 := Lib.hid (HB4.out.trans (hb5.mono HB4.out.size))
            clear t1 hb5 HR4 HT4 HB4
            have d0 := HR5.out.cells.1
            have d1 := HR5.out.cells.2.1
            have d2 := HT5.out.free
            have d3 := HT5.out.cells
            have hbT := lt_of_blk HRr.out
            have hne : ¬ b = w1.heap.size := by omega
            cases hdig : digitB s[k]
            · have HS : Hid (oneT (s.data.toList.drop k) = (4, if memL signBytes ((s.data.toList.drop k).take 2) then (s.data.toList.drop k).take 2 else (s.data.toList.drop k).take 1)) := Lib.hid (oneT_sign hk hlet hdig)
              clear hlet
              go_wp2_with fail
              go_region
              go_wp2_with fail
              refine wp_world (F := fun w' => ∃ x : ByteArray, x.data.toList = (s.data.toList.drop k).take 2 ∧ TokAt w' w1.heap.size 4 x k ∧ Below w1.heap.size w1 w') ⟨s.extract k (min ((k : Int) + 2) s.size).toNat, extract_two hk, HT5.out.set1 _, (HB5.out.setCell (p := ⟨w1.heap.size, 1, none⟩) (Nat.le_refl _) _).drew⟩ ?_
              rintro w6 ⟨x, hx, hT6, hB6⟩
              have HX := Lib.hid hx
              have HT6 := Lib.hid hT6
              have HB6 := Lib.hid hB6
              have c1 := hT6.cells.2.1
              have c2 := lt_of_blk hT6
              have hx1 : 1 ≤ x.size := two_size hk hx
              clear hx hT6 hB6 d0 d1 d2 d3 HT5 HB5
              cases hm : memB signList x
              · have HO : Hid (oneT (s.data.toList.drop k) = (4, (x.extract 0 1).data.toList)) := Lib.hid (by
                  rw [HS.out, ← HX.out, ← memB_signs, hm, extract_list, HX.out]; simp [List.take_take])
                have c3 := HT6.out.free.2.1
                go_region_held3 (fun w' => w'.cell? ⟨w1.heap.size, 1, none⟩ = some (.string x)) (go_keep) (first | (go_at_call 16; refine (signs_any _).mono ?_; rintro e w' ⟨rfl, rfl⟩) | (go_at_call 48; refine (contains_any _ 21 _ signList _ _ rfl (by omega) (signs_cells_d _)).mono ?_; rintro e w' ⟨rfl, rfl⟩))
                go_wp2_with fail
                go_meet
                case rel =>
                  have hT7 := HT6.out.set1 (x.extract 0 1)
                  have hB7 := HB6.out.setCell (p := ⟨w1.heap.size, 1, none⟩) (Nat.le_refl _) (.string (x.extract 0 1))
                  have hb7 := ((Below.refl (w6.setCell ⟨w1.heap.size, 1, none⟩ (.string (x.extract 0 1))).heap.size (w6.setCell ⟨w1.heap.size, 1, none⟩ (.string (x.extract 0 1)))).alloc (Nat.le_refl _) (.cells signCells 9)).drew
                  exact ⟨x.extract 0 1, by rw [HO.out]; exact hT7.below hb7, by rw [HO.out], hB7.trans (hb7.mono hB7.size)⟩
              · have HO : Hid (oneT (s.data.toList.drop k) = (4, x.data.toList)) := Lib.hid (by
                  rw [HS.out, ← HX.out, ← memB_signs, hm]; rfl)
                go_region_held3 (fun w' => w'.cell? ⟨w1.heap.size, 1, none⟩ = some (.string x)) (go_keep) (first | (go_at_call 16; refine (signs_any _).mono ?_; rintro e w' ⟨rfl, rfl⟩) | (go_at_call 48; refine (contains_any _ 21 _ signList _ _ rfl (by omega) (signs_cells_d _)).mono ?_; rintro e w' ⟨rfl, rfl⟩))
                go_wp2_with fail
                go_meet
                case rel =>
                  have hb7 : Below w6.heap.size w6 (w6.alloc (.cells signCells 9)).drew := ((Below.refl _ _).alloc (Nat.le_refl _) _).drew
                  exact ⟨x, by rw [HO.out]; exact HT6.out.below hb7, by rw [HO.out], HB6.out.trans (hb7.mono HB6.out.size)⟩
            · have HO : Hid (oneT (s.data.toList.drop k) = (3, (s.extract k e).data.toList)) := Lib.hid (by rw [oneT_digit hk hlet hdig, extract_list, ← HW.out])
              clear hlet
              go_wp2_with fail
              go_region
              go_wp2_with fail
              go_meet
              case rel =>
                exact ⟨s.extract k e, by rw [HO.out]; exact (HT5.out.set0 3).set1 (s.extract k e), by rw [HO.out], ((HB5.out.setCell (p := ⟨w1.heap.size, 0, none⟩) (Nat.le_refl _) _).setCell (p := ⟨w1.heap.size, 1, none⟩) (Nat.le_refl _) _).drew⟩
          · have d0 := HR4.out.cells.1
            have d1 := HR4.out.cells.2.1
            have d2 := HT4.out.free
            have d3 := HT4.out.cells
            have hbT := lt_of_blk HRr.out
            have hne : ¬ b = w1.heap.size := by omega
            go_wp2_with fail
            go_region
            go_wp2_with fail
            refine wp_world (F := fun w' => TokAt w' w1.heap.size 1 (s.extract k e) k ∧ Below w1.heap.size w1 w') ⟨(HT4.out.set0 1).set1 (s.extract k e), ((HB4.out.setCell (p := ⟨w1.heap.size, 0, none⟩) (Nat.le_refl _) _).setCell (p := ⟨w1.heap.size, 1, none⟩) (Nat.le_refl _) _).drew⟩ ?_
            rintro w5 ⟨hT5, hB5⟩
            have HT5 := Lib.hid hT5
            have HB5 := Lib.hid hB5
            have c1 := hT5.cells.2.1
            have c2 := lt_of_blk hT5
            clear hT5 hB5 d0 d1 d2 d3 HT4 HB4
            have HX : Hid ((s.extract k e).data.toList = (s.data.toList.drop k).takeWhile partB) := Lib.hid (by rw [HW.out, extract_list])
            cases hm : memB wordList (s.extract k e)
            · have HO : Hid (oneT (s.data.toList.drop k) = (1, (s.extract k e).data.toList)) := Lib.hid (by rw [oneT_letter hk hlet, HX.out, ← HX.out, ← memB_words, hm]; rfl)
              clear hlet
              go_region_held3 (fun w' => w'.cell? ⟨w1.heap.size, 1, none⟩ = some (.string (s.extract k e))) (go_keep) (first | (go_at_call 14; refine (words_any _).mono ?_; rintro e w' ⟨rfl, rfl⟩) | (go_at_call 48; refine (contains_any _ 23 _ wordList _ _ rfl (by omega) (words_cells_d _)).mono ?_; rintro e w' ⟨rfl, rfl⟩))
              go_wp2_with fail
              go_meet
              case rel =>
                have hb5 : Below w5.heap.size w5 (w5.alloc (.cells wordCells 9)).drew := ((Below.refl _ _).alloc (Nat.le_refl _) _).drew
                exact ⟨s.extract k e, by rw [HO.out]; exact HT5.out.below hb5, by rw [HO.out], HB5.out.trans (hb5.mono HB5.out.size)⟩
            · have HO : Hid (oneT (s.data.toList.drop k) = (2, (s.extract k e).data.toList)) := Lib.hid (by rw [oneT_letter hk hlet, HX.out, ← HX.out, ← memB_words, hm]; rfl)
              clear hlet
              have c0 := HT5.out.cells.1
              have c3 := HT5.out.free.1
              go_region_held3 (fun w' => w'.cell? ⟨w1.heap.size, 1, none⟩ = some (.string (s.extract k e))) (go_keep) (first | (go_at_call 14; refine (words_any _).mono ?_; rintro e w' ⟨rfl, rfl⟩) | (go_at_call 48; refine (contains_any _ 23 _ wordList _ _ rfl (by omega) (words_cells_d _)).mono ?_; rintro e w' ⟨rfl, rfl⟩))
              go_wp2_with fail
              go_meet
              case rel =>
                have hT6 := HT5.out.set0 2
                have hB6 := HB5.out.setCell (p := ⟨w1.heap.size, 0, none⟩) (Nat.le_refl _) (.int .i64 2)
                have hb6 := ((Below.refl (w5.setCell ⟨w1.heap.size, 0, none⟩ (.int .i64 2)).heap.size (w5.setCell ⟨w1.heap.size, 0, none⟩ (.int .i64 2))).alloc (Nat.le_refl _) (.cells wordCells 9)).drew
                exact ⟨s.extract k e, by rw [HO.out]; exact hT6.below hb6, by rw [HO.out], hB6.trans (hb6.mono hB6.size)⟩
        case rest =>
          obtain ⟨tx, hTc, htx, hBc⟩ := hcut
          have HTc := Lib.hid hTc
          have HBc := Lib.hid hBc
          have HX := Lib.hid htx
          have HRc := Lib.hid (HRr.out.below hBc)
          have HZ1 : Hid (TokAt w1 w.heap.size 0 ⟨#[]⟩ 0) := Lib.hid ((tok_new w 0 ⟨#[]⟩ 0).below HB.out)
          have HZ := Lib.hid (HZ1.out.below hBc)
          have hbT := lt_of_blk HRr.out
          have hZT := lt_of_blk HZ1.out
          have htl : tx.size ≤ s.size - k := one_size htx
          obtain ⟨kd, hkd⟩ : ∃ kd, kd = (oneT (s.data.toList.drop k)).1 := ⟨_, rfl⟩
          rw [← hkd] at HTc
          have HKD := Lib.hid hkd
          have d3 := HTc.out.cells
          clear hTc hBc htx hkd HR3 HT3 HB3 HR2 HT HB2
          cases hri : rightB kd tx.data.toList
          · have HRI : Hid (rightB (oneT (s.data.toList.drop k)).1 (oneT (s.data.toList.drop k)).2 = false) := Lib.hid (by rw [← HKD.out, ← HX.out]; exact hri)
            go_wp2_with fail
            refine (right_any _ _ _ (by omega)).mono ?_
            rintro e' w5 ⟨rfl, hb5⟩
            have e0 := (HRc.out.below hb5).cells.1
            have e1 := (HRc.out.below hb5).cells.2.1
            go_wp2
            exact ⟨rfl, .inr ⟨HRI.out, rfl, only_new ((alloc_trans HB.out).trans ((HBc.out.trans (hb5.mono HBc.out.size)).mono (alloc_le HB.out))) b⟩⟩
          · have HRI : Hid (rightB (oneT (s.data.toList.drop k)).1 (oneT (s.data.toList.drop k)).2 = true) := Lib.hid (by rw [← HKD.out, ← HX.out]; exact hri)
            go_wp2_with fail
            refine (right_any _ _ _ (by omega)).mono ?_
            rintro e' w5 ⟨rfl, hb5⟩
            have HR5 := Lib.hid (HRc.out.below hb5)
            have HT5 := Lib.hid (HTc.out.below hb5)
            have HZ5 := Lib.hid (HZ.out.below hb5)
            have HB5 := Lib.hid (HBc.out.trans (hb5.mono HBc.out.size))
            clear d3 hb5
            have e0 := HR5.out.cells
            have d3 := HT5.out.cells
            have hne : ¬ b = w1.heap.size := by omega
            have hne2 : ¬ b = w.heap.size := by omega
            have hne3 : ¬ w1.heap.size = w.heap.size := by omega
            have hsum : (k : Int) + tx.size ≤ 1000000 := by omega
            have z0 := HZ5.out.cells
            have z1 := HZ5.out.free
            go_wp2_with fail
            go_region
            go_wp2
            have HN : Hid (RdAt (((((w5.setCell ⟨b, 1, none⟩ (.int .i64 ((k : Int) + (tx.size : Int)))).setCell ⟨w.heap.size, 0, none⟩ (.int .i64 kd)).setCell ⟨w.heap.size, 1, none⟩ (.string tx)).setCell ⟨w.heap.size, 2, none⟩ (.int .i64 (k : Int))).drew) b s ((k : Int) + (tx.size : Int))) := Lib.hid ((((HR5.out.set _).far hne2 _ _).far hne2 _ _).far hne2 _ _)
            have HE : Hid (TokAt (((((w5.setCell ⟨b, 1, none⟩ (.int .i64 ((k : Int) + (tx.size : Int)))).setCell ⟨w.heap.size, 0, none⟩ (.int .i64 kd)).setCell ⟨w.heap.size, 1, none⟩ (.string tx)).setCell ⟨w.heap.size, 2, none⟩ (.int .i64 (k : Int))).drew) w.heap.size kd tx k) := Lib.hid ((((HZ5.out.far (fun h => hne2 h.symm) _ _).set0 kd).set1 tx).set2 k)
            have HO5 : Hid (w.grownBy w5 (some b)) := Lib.hid (only_new ((alloc_trans HB.out).trans (HB5.out.mono (alloc_le HB.out))) b)
            have HG : Hid (w.grownBy (((((w5.setCell ⟨b, 1, none⟩ (.int .i64 ((k : Int) + (tx.size : Int)))).setCell ⟨w.heap.size, 0, none⟩ (.int .i64 kd)).setCell ⟨w.heap.size, 1, none⟩ (.string tx)).setCell ⟨w.heap.size, 2, none⟩ (.int .i64 (k : Int))).drew) (some b)) := Lib.hid (only_drew (only_far (only_far (only_far (only_set HO5.out _ _) (Nat.le_refl _) _ _) (Nat.le_refl _) _ _) (Nat.le_refl _) _ _))
            generalize (((((w5.setCell ⟨b, 1, none⟩ (.int .i64 ((k : Int) + (tx.size : Int)))).setCell ⟨w.heap.size, 0, none⟩ (.int .i64 kd)).setCell ⟨w.heap.size, 1, none⟩ (.string tx)).setCell ⟨w.heap.size, 2, none⟩ (.int .i64 (k : Int))).drew) = w9 at HN HE HG ⊢
            have q := HE.out.cells
            exact bodyPost_ret (v := .agg #[.int .i64 kd, .string tx, .int .i64 k]) (by simp [results, Try.results56, go_sem, q.1, q.2.1, q.2.2]) rfl (.inl ⟨HRI.out, tx, HX.out, by rw [← HKD.out], by rw [← HX.out]; exact (size_list tx) ▸ HN.out, HG.out⟩)
      · clear hmore
        go_wp2_with fail
        obtain ⟨w1, hw1⟩ : ∃ x, x = wr := ⟨_, rfl⟩
        subst hw1
        have HT := Lib.hid (tok_new w1 4 ⟨#[]⟩ k)
        have HR2 := Lib.hid (HRr.out.below ((Below.refl _ _).alloc (Nat.le_refl _) (.cells #[.int .i64 4, .string ⟨#[]⟩, .int .i64 (k : Int)] 23)))
        obtain ⟨w2, hw2⟩ : ∃ x, x = w1.alloc (.cells #[.int .i64 4, .string ⟨#[]⟩, .int .i64 (k : Int)] 23) := ⟨_, rfl⟩
        rw [← hw2] at HT HR2 ⊢
        have HB2 : Hid (Below w1.heap.size w1 w2) := Lib.hid (by rw [hw2]; exact (Below.refl _ _).alloc (Nat.le_refl _) _)
        clear hw2 e0 e1
        have d0 : ∀ x : Later w2, x.world.cell? ⟨b, 0, none⟩ = some (.string s) := later_cell HR2.out.cells.1
        have d1 : ∀ x : Later w2, x.world.cell? ⟨b, 1, none⟩ = some (.int .i64 (k : Int)) := later_cell HR2.out.cells.2.1
        go_wp2_with fail
        refine wp_region_later (by kernel_rfl) (by kernel_rfl) ?_
        repeat (go_big_quiet_step (fail))
        refine wpQuiet_nil ?_
        intro w3 hb3
        have HR3 := Lib.hid (HR2.out.below hb3)
        have HT3 := Lib.hid (HT.out.below hb3)
        have HB3 := Lib.hid (HB2.out.trans (hb3.mono HB2.out.size))
        clear d0 d1 hb3
        go_upto_block 2 with (fail)
        go_cut [] (fun w' => CutRel s k w1 w')
        case first =>
          have e0 := HR3.out.cells.1
          have e1 := HR3.out.cells.2.1
          have t0 := HR3.out.tests.1
          go_upto_if 83 with (go_at_call 67; refine (has_letter _ _).mono ?_; rintro e' w4 ⟨rfl, hb4⟩)
          have HR4 := Lib.hid (HR3.out.below hb4)
          have HT4 := Lib.hid (HT3.out.below hb4)
          have HB4 := Lib.hid (HB3.out.trans (hb4.mono HB3.out.size))
          clear e0 e1 t0 hb4
          cases hlet : letterB s[k]
          · have t1 := HR4.out.tests.2.1
            go_upto_if 110 with (go_at_call 67; refine (has_digit _ _).mono ?_; rintro e' w5 ⟨rfl, hb5⟩)
            have HR5 := Lib.hid (HR4.out.below hb5)
            have HT5 := Lib.hid (HT4.out.below hb5)
            have HB5 := Lib.hid (HB4.out.trans (hb5.mono HB4.out.size))
            clear t1 hb5 HR4 HT4 HB4
            have d0 := HR5.out.cells.1
            have d1 := HR5.out.cells.2.1
            have d2 := HT5.out.free
            have d3 := HT5.out.cells
            have hbT := lt_of_blk HRr.out
            have hne : ¬ b = w1.heap.size := by omega
            cases hdig : digitB s[k]
            · have HS : Hid (oneT (s.data.toList.drop k) = (4, if memL signBytes ((s.data.toList.drop k).take 2) then (s.data.toList.drop k).take 2 else (s.data.toList.drop k).take 1)) := Lib.hid (oneT_sign hk hlet hdig)
              clear hlet
              go_wp2_with fail
              go_region
              go_wp2_with fail
              refine wp_world (F := fun w' => ∃ x : ByteArray, x.data.toList = (s.data.toList.drop k).take 2 ∧ TokAt w' w1.heap.size 4 x k ∧ Below w1.heap.size w1 w') ⟨s.extract k (min ((k : Int) + 2) s.size).toNat, extract_two hk, HT5.out.set1 _, (HB5.out.setCell (p := ⟨w1.heap.size, 1, none⟩) (Nat.le_refl _) _).drew⟩ ?_
              rintro w6 ⟨x, hx, hT6, hB6⟩
              have HX := Lib.hid hx
              have HT6 := Lib.hid hT6
              have HB6 := Lib.hid hB6
              have c1 := hT6.cells.2.1
              have c2 := lt_of_blk hT6
              have hx1 : 1 ≤ x.size := two_size hk hx
              clear hx hT6 hB6 d0 d1 d2 d3 HT5 HB5
              cases hm : memB signList x
              · have HO : Hid (oneT (s.data.toList.drop k) = (4, (x.extract 0 1).data.toList)) := Lib.hid (by
                  rw [HS.out, ← HX.out, ← memB_signs, hm, extract_list, HX.out]; simp [List.take_take])
                have c3 := HT6.out.free.2.1
                go_region_held3 (fun w' => w'.cell? ⟨w1.heap.size, 1, none⟩ = some (.string x)) (go_keep) (first | (go_at_call 16; refine (signs_any _).mono ?_; rintro e w' ⟨rfl, rfl⟩) | (go_at_call 48; refine (contains_any _ 21 _ signList _ _ rfl (by omega) (signs_cells_d _)).mono ?_; rintro e w' ⟨rfl, rfl⟩))
                go_wp2_with fail
                go_meet
                case rel =>
                  have hT7 := HT6.out.set1 (x.extract 0 1)
                  have hB7 := HB6.out.setCell (p := ⟨w1.heap.size, 1, none⟩) (Nat.le_refl _) (.string (x.extract 0 1))
                  have hb7 := ((Below.refl (w6.setCell ⟨w1.heap.size, 1, none⟩ (.string (x.extract 0 1))).heap.size (w6.setCell ⟨w1.heap.size, 1, none⟩ (.string (x.extract 0 1)))).alloc (Nat.le_refl _) (.cells signCells 9)).drew
                  exact ⟨x.extract 0 1, by rw [HO.out]; exact hT7.below hb7, by rw [HO.out], hB7.trans (hb7.mono hB7.size)⟩
              · have HO : Hid (oneT (s.data.toList.drop k) = (4, x.data.toList)) := Lib.hid (by
                  rw [HS.out, ← HX.out, ← memB_signs, hm]; rfl)
                go_region_held3 (fun w' => w'.cell? ⟨w1.heap.size, 1, none⟩ = some (.string x)) (go_keep) (first | (go_at_call 16; refine (signs_any _).mono ?_; rintro e w' ⟨rfl, rfl⟩) | (go_at_call 48; refine (contains_any _ 21 _ signList _ _ rfl (by omega) (signs_cells_d _)).mono ?_; rintro e w' ⟨rfl, rfl⟩))
                go_wp2_with fail
                go_meet
                case rel =>
                  have hb7 : Below w6.heap.size w6 (w6.alloc (.cells signCells 9)).drew := ((Below.refl _ _).alloc (Nat.le_refl _) _).drew
                  exact ⟨x, by rw [HO.out]; exact HT6.out.below hb7, by rw [HO.out], HB6.out.trans (hb7.mono HB6.out.size)⟩
            · have HO : Hid (oneT (s.data.toList.drop k) = (3, (s.extract k e).data.toList)) := Lib.hid (by rw [oneT_digit hk hlet hdig, extract_list, ← HW.out])
              clear hlet
              go_wp2_with fail
              go_region
              go_wp2_with fail
              go_meet
              case rel =>
                exact ⟨s.extract k e, by rw [HO.out]; exact (HT5.out.set0 3).set1 (s.extract k e), by rw [HO.out], ((HB5.out.setCell (p := ⟨w1.heap.size, 0, none⟩) (Nat.le_refl _) _).setCell (p := ⟨w1.heap.size, 1, none⟩) (Nat.le_refl _) _).drew⟩
          · have d0 := HR4.out.cells.1
            have d1 := HR4.out.cells.2.1
            have d2 := HT4.out.free
            have d3 := HT4.out.cells
            have hbT := lt_of_blk HRr.out
            have hne : ¬ b = w1.heap.size := by omega
            go_wp2_with fail
            go_region
            go_wp2_with fail
            refine wp_world (F := fun w' => TokAt w' w1.heap.size 1 (s.extract k e) k ∧ Below w1.heap.size w1 w') ⟨(HT4.out.set0 1).set1 (s.extract k e), ((HB4.out.setCell (p := ⟨w1.heap.size, 0, none⟩) (Nat.le_refl _) _).setCell (p := ⟨w1.heap.size, 1, none⟩) (Nat.le_refl _) _).drew⟩ ?_
            rintro w5 ⟨hT5, hB5⟩
            have HT5 := Lib.hid hT5
            have HB5 := Lib.hid hB5
            have c1 := hT5.cells.2.1
            have c2 := lt_of_blk hT5
            clear hT5 hB5 d0 d1 d2 d3 HT4 HB4
            have HX : Hid ((s.extract k e).data.toList = (s.data.toList.drop k).takeWhile partB) := Lib.hid (by rw [HW.out, extract_list])
            cases hm : memB wordList (s.extract k e)
            · have HO : Hid (oneT (s.data.toList.drop k) = (1, (s.extract k e).data.toList)) := Lib.hid (by rw [oneT_letter hk hlet, HX.out, ← HX.out, ← memB_words, hm]; rfl)
              clear hlet
              go_region_held3 (fun w' => w'.cell? ⟨w1.heap.size, 1, none⟩ = some (.string (s.extract k e))) (go_keep) (first | (go_at_call 14; refine (words_any _).mono ?_; rintro e w' ⟨rfl, rfl⟩) | (go_at_call 48; refine (contains_any _ 23 _ wordList _ _ rfl (by omega) (words_cells_d _)).mono ?_; rintro e w' ⟨rfl, rfl⟩))
              go_wp2_with fail
              go_meet
              case rel =>
                have hb5 : Below w5.heap.size w5 (w5.alloc (.cells wordCells 9)).drew := ((Below.refl _ _).alloc (Nat.le_refl _) _).drew
                exact ⟨s.extract k e, by rw [HO.out]; exact HT5.out.below hb5, by rw [HO.out], HB5.out.trans (hb5.mono HB5.out.size)⟩
            · have HO : Hid (oneT (s.data.toList.drop k) = (2, (s.extract k e).data.toList)) := Lib.hid (by rw [oneT_letter hk hlet, HX.out, ← HX.out, ← memB_words, hm]; rfl)
              clear hlet
              have c0 := HT5.out.cells.1
              have c3 := HT5.out.free.1
              go_region_held3 (fun w' => w'.cell? ⟨w1.heap.size, 1, none⟩ = some (.string (s.extract k e))) (go_keep) (first | (go_at_call 14; refine (words_any _).mono ?_; rintro e w' ⟨rfl, rfl⟩) | (go_at_call 48; refine (contains_any _ 23 _ wordList _ _ rfl (by omega) (words_cells_d _)).mono ?_; rintro e w' ⟨rfl, rfl⟩))
              go_wp2_with fail
              go_meet
              case rel =>
                have hT6 := HT5.out.set0 2
                have hB6 := HB5.out.setCell (p := ⟨w1.heap.size, 0, none⟩) (Nat.le_refl _) (.int .i64 2)
                have hb6 := ((Below.refl (w5.setCell ⟨w1.heap.size, 0, none⟩ (.int .i64 2)).heap.size (w5.setCell ⟨w1.heap.size, 0, none⟩ (.int .i64 2))).alloc (Nat.le_refl _) (.cells wordCells 9)).drew
                exact ⟨s.extract k e, by rw [HO.out]; exact hT6.below hb6, by rw [HO.out], hB6.trans (hb6.mono hB6.size)⟩
        case rest =>
          obtain ⟨tx, hTc, htx, hBc⟩ := hcut
          have HTc := Lib.hid hTc
          have HBc := Lib.hid hBc
          have HX := Lib.hid htx
          have HRc := Lib.hid (HRr.out.below hBc)
          have HZ1 : Hid (TokAt w1 w.heap.size 0 ⟨#[]⟩ 0) := Lib.hid ((tok_new w 0 ⟨#[]⟩ 0).below HB.out)
          have HZ := Lib.hid (HZ1.out.below hBc)
          have hbT := lt_of_blk HRr.out
          have hZT := lt_of_blk HZ1.out
          have htl : tx.size ≤ s.size - k := one_size htx
          obtain ⟨kd, hkd⟩ : ∃ kd, kd = (oneT (s.data.toList.drop k)).1 := ⟨_, rfl⟩
          rw [← hkd] at HTc
          have HKD := Lib.hid hkd
          have d3 := HTc.out.cells
          clear hTc hBc htx hkd HR3 HT3 HB3 HR2 HT HB2
          cases hri : rightB kd tx.data.toList
          · have HRI : Hid (rightB (oneT (s.data.toList.drop k)).1 (oneT (s.data.toList.drop k)).2 = false) := Lib.hid (by rw [← HKD.out, ← HX.out]; exact hri)
            go_wp2_with fail
            refine (right_any _ _ _ (by omega)).mono ?_
            rintro e' w5 ⟨rfl, hb5⟩
            have e0 := (HRc.out.below hb5).cells.1
            have e1 := (HRc.out.below hb5).cells.2.1
            go_wp2
            exact ⟨rfl, .inr ⟨HRI.out, rfl, only_new ((alloc_trans HB.out).trans ((HBc.out.trans (hb5.mono HBc.out.size)).mono (alloc_le HB.out))) b⟩⟩
          · have HRI : Hid (rightB (oneT (s.data.toList.drop k)).1 (oneT (s.data.toList.drop k)).2 = true) := Lib.hid (by rw [← HKD.out, ← HX.out]; exact hri)
            go_wp2_with fail
            refine (right_any _ _ _ (by omega)).mono ?_
            rintro e' w5 ⟨rfl, hb5⟩
            have HR5 := Lib.hid (HRc.out.below hb5)
            have HT5 := Lib.hid (HTc.out.below hb5)
            have HZ5 := Lib.hid (HZ.out.below hb5)
            have HB5 := Lib.hid (HBc.out.trans (hb5.mono HBc.out.size))
            clear d3 hb5
            have e0 := HR5.out.cells
            have d3 := HT5.out.cells
            have hne : ¬ b = w1.heap.size := by omega
            have hne2 : ¬ b = w.heap.size := by omega
            have hne3 : ¬ w1.heap.size = w.heap.size := by omega
            have hsum : (k : Int) + tx.size ≤ 1000000 := by omega
            have z0 := HZ5.out.cells
            have z1 := HZ5.out.free
            go_wp2_with fail
            go_region
            go_wp2
            have HN : Hid (RdAt (((((w5.setCell ⟨b, 1, none⟩ (.int .i64 ((k : Int) + (tx.size : Int)))).setCell ⟨w.heap.size, 0, none⟩ (.int .i64 kd)).setCell ⟨w.heap.size, 1, none⟩ (.string tx)).setCell ⟨w.heap.size, 2, none⟩ (.int .i64 (k : Int))).drew) b s ((k : Int) + (tx.size : Int))) := Lib.hid ((((HR5.out.set _).far hne2 _ _).far hne2 _ _).far hne2 _ _)
            have HE : Hid (TokAt (((((w5.setCell ⟨b, 1, none⟩ (.int .i64 ((k : Int) + (tx.size : Int)))).setCell ⟨w.heap.size, 0, none⟩ (.int .i64 kd)).setCell ⟨w.heap.size, 1, none⟩ (.string tx)).setCell ⟨w.heap.size, 2, none⟩ (.int .i64 (k : Int))).drew) w.heap.size kd tx k) := Lib.hid ((((HZ5.out.far (fun h => hne2 h.symm) _ _).set0 kd).set1 tx).set2 k)
            have HO5 : Hid (w.grownBy w5 (some b)) := Lib.hid (only_new ((alloc_trans HB.out).trans (HB5.out.mono (alloc_le HB.out))) b)
            have HG : Hid (w.grownBy (((((w5.setCell ⟨b, 1, none⟩ (.int .i64 ((k : Int) + (tx.size : Int)))).setCell ⟨w.heap.size, 0, none⟩ (.int .i64 kd)).setCell ⟨w.heap.size, 1, none⟩ (.string tx)).setCell ⟨w.heap.size, 2, none⟩ (.int .i64 (k : Int))).drew) (some b)) := Lib.hid (only_drew (only_far (only_far (only_far (only_set HO5.out _ _) (Nat.le_refl _) _ _) (Nat.le_refl _) _ _) (Nat.le_refl _) _ _))
            generalize (((((w5.setCell ⟨b, 1, none⟩ (.int .i64 ((k : Int) + (tx.size : Int)))).setCell ⟨w.heap.size, 0, none⟩ (.int .i64 kd)).setCell ⟨w.heap.size, 1, none⟩ (.string tx)).setCell ⟨w.heap.size, 2, none⟩ (.int .i64 (k : Int))).drew) = w9 at HN HE HG ⊢
            have q := HE.out.cells
            exact bodyPost_ret (v := .agg #[.int .i64 kd, .string tx, .int .i64 k]) (by simp [results, Try.results56, go_sem, q.1, q.2.1, q.2.2]) rfl (.inl ⟨HRI.out, tx, HX.out, by rw [← HKD.out], by rw [← HX.out]; exact (size_list tx) ▸ HN.out, HG.out⟩)
end Go.Proofs.Ytigppjgmfonodaa
