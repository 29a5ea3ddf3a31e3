/- The walk of LexChecks. -/
import Derived.Test.YtigppjgmfonodaaTokN
namespace Go.Proofs.Ytigppjgmfonodaa
open Go.RowKit

theorem check_e (kind : Int) (s : ByteArray) (a : Int) (w : World) (E : Int) (hE : checkE kind s.data.toList a = E) (hs : s.size ≤ 1000000) :
    Calls Try.prog 11 #[.agg #[.int .i64 kind, .string s, .int .i64 a]] w fun e w' => e = .returned (.int .i64 E) ∧ Below w.heap.size w w' := by rw [← hE]; exact check_any kind s a w hs
theorem rcheck_e (kind : Int) (s : ByteArray) (a : Int) (w : World) (E : Int) (hE : checkE kind s.data.toList a = E) (hs : s.size ≤ 1000000) :
    Calls Try.prog 12 #[.agg #[.int .i64 kind, .string s, .int .i64 a]] w fun e w' => e = .returned (.int .i64 E) ∧ Below w.heap.size w w' := by rw [← hE]; exact rcheck_any kind s a w hs

theorem words_list {W w1 : World} (h : W.alloc (.cells wordCells 9) = w1) : ListS Value.string w1 (.slice (some ⟨W.heap.size, 0, none⟩) 23 23) wordList := by
  rw [← h]; exact ListS.lit Value.string W wordList _ (by decide)
theorem signs_list {W w1 : World} (h : W.alloc (.cells signCells 9) = w1) : ListS Value.string w1 (.slice (some ⟨W.heap.size, 0, none⟩) 21 21) signList := by
  rw [← h]; exact ListS.lit Value.string W signList _ (by decide)
theorem signs_below {W w w1 : World} (hb : Below W.heap.size W w) (h : w.alloc (.cells signCells 9) = w1) : Below W.heap.size W w1 := by rw [← h]; exact hb.alloc hb.size _
theorem tok4_0 (k0 k1 k2 k3 i0 i1 i2 i3 : Int) (s0 s1 s2 s3 : ByteArray) (W : World) : (Instr.index 29 (.agg #[.int .i64 k0, .string s0, .int .i64 i0, .int .i64 k1, .string s1, .int .i64 i1, .int .i64 k2, .string s2, .int .i64 i2, .int .i64 k3, .string s3, .int .i64 i3]) (.int .i64 0)).run Try.prog W = .ok (.agg #[.int .i64 k0, .string s0, .int .i64 i0]) W := by kernel_rfl
theorem tok4_1 (k0 k1 k2 k3 i0 i1 i2 i3 : Int) (s0 s1 s2 s3 : ByteArray) (W : World) : (Instr.index 29 (.agg #[.int .i64 k0, .string s0, .int .i64 i0, .int .i64 k1, .string s1, .int .i64 i1, .int .i64 k2, .string s2, .int .i64 i2, .int .i64 k3, .string s3, .int .i64 i3]) (.int .i64 1)).run Try.prog W = .ok (.agg #[.int .i64 k1, .string s1, .int .i64 i1]) W := by kernel_rfl
theorem tok4_2 (k0 k1 k2 k3 i0 i1 i2 i3 : Int) (s0 s1 s2 s3 : ByteArray) (W : World) : (Instr.index 29 (.agg #[.int .i64 k0, .string s0, .int .i64 i0, .int .i64 k1, .string s1, .int .i64 i1, .int .i64 k2, .string s2, .int .i64 i2, .int .i64 k3, .string s3, .int .i64 i3]) (.int .i64 2)).run Try.prog W = .ok (.agg #[.int .i64 k2, .string s2, .int .i64 i2]) W := by kernel_rfl
theorem tok4_3 (k0 k1 k2 k3 i0 i1 i2 i3 : Int) (s0 s1 s2 s3 : ByteArray) (W : World) : (Instr.index 29 (.agg #[.int .i64 k0, .string s0, .int .i64 i0, .int .i64 k1, .string s1, .int .i64 i1, .int .i64 k2, .string s2, .int .i64 i2, .int .i64 k3, .string s3, .int .i64 i3]) (.int .i64 3)).run Try.prog W = .ok (.agg #[.int .i64 k3, .string s3, .int .i64 i3]) W := by kernel_rfl
theorem at_world {R : World → Prop} {W : World} (F : World → Prop) (h : F W) (k : ∀ w', F w' → R w') : R W := k W h

set_option maxRecDepth 100000 in
set_option maxHeartbeats 4000000 in
theorem checks_walk (kd at_ : Int) (tx : ByteArray) (k wh : UInt8) (v : Value) (ls : List UInt8) (n : Nat) (kind ix : Int) (w : World) (htx : tx.size ≤ maxLen) (hv : ListS u8v w v ls) (hn : n < 4294967296) :
    Calls Try.prog 3 #[.agg #[.int .i64 kd, .string tx, .int .i64 at_], .agg #[.int .u8 k.toNat, .int .u8 wh.toNat, v, .int .u32 n], .int .i64 kind, .int .i64 ix] w fun e w' => e = .returned (.bool true) ∧ Below w.heap.size w w' := by
  obtain ⟨p, cap, rfl, h1, h2, h3⟩ := hv
  have HV : Hid (ListS u8v w (.slice p ls.length cap) ls) := Lib.hid ⟨p, cap, rfl, h1, h2, h3⟩
  unfold maxLen at htx
  have HDR := Lib.hid (draft_right k wh ls n)
  have HDL := Lib.hid (right_len (draft_right k wh ls n))
  obtain ⟨D, hD⟩ : ∃ D, draftT k wh ls n = D := ⟨_, rfl⟩
  have HD := Lib.hid hD
  rw [hD] at HDR HDL
  obtain ⟨dk, dt, dp⟩ := D
  have hdl : dt.length ≤ 12 := HDL.out
  have hds : (bytesOf dt).size ≤ 1000000 := by simp [bytesOf, ByteArray.size]; omega
  have hxs : (tx.extract 0 (min (tx.size : Int) 20).toNat).size ≤ 1000000 := by rw [ByteArray.size_extract]; omega
  clear hD h3
  go_enter Try.func3, Try.ntmps3
  go_wp2_with fail
  refine (token_any k wh _ ls n _ ?_ hn).mono ?_
  · exact HV.out.below (((Below.refl _ _).alloc (Nat.le_refl _) _).alloc (by simp) _)
  rintro e w1 ⟨rfl, hb1⟩
  rw [HD.out]
  unfold ZTok.val
  go_wp2_with fail
  refine wp_world (F := fun w2 => TokAt w2 w.heap.size kd (tx.extract 0 (min (tx.size : Int) 20).toNat) at_ ∧ TokAt w2 w1.heap.size dk (bytesOf dt) dp ∧ Below w.heap.size w w2) ⟨heap_alloc_lt (TokAt.below hb1 (heap_alloc_lt (heap_alloc_at rfl))), heap_alloc_at rfl, (alloc_trans (alloc_trans hb1)).alloc (alloc_trans (alloc_trans hb1)).size _⟩ ?_
  rintro w2 ⟨hT, hX, hB⟩
  have HT := Lib.hid hT
  have HX := Lib.hid hX
  have HB := Lib.hid hB
  have c1 := hX.cells
  have lt1 := lt_of_blk hT
  have lt2 := lt_of_blk hX
  clear hT hX hB hb1
  go_wp2_with fail
  go_region
  all_goals
    refine at_world (R := Exit.then _ _ _ _) (F := fun w3 => TokAt w3 w.heap.size kd (tx.extract 0 (min (tx.size : Int) 20).toNat) at_ ∧ TokAt w3 w1.heap.size dk (bytesOf dt) dp ∧ TokAt w3 w2.heap.size dk (bytesOf dt) dp ∧ TokAt w3 (w2.heap.size + 1) dk (bytesOf dt) dp ∧ Below w.heap.size w w3) ?_ ?_
    · exact ⟨heap_alloc_lt (heap_alloc_lt HT.out), heap_alloc_lt (heap_alloc_lt HX.out), heap_alloc_lt (heap_alloc_at rfl), heap_alloc_at (by simp), ((HB.out.alloc HB.out.size _).alloc (Nat.le_trans HB.out.size (by simp)) _).drew⟩
    rintro w3 ⟨hT, hX, hY, hZ, hB3⟩
    have c1 := hT.cells
    have c2 := hX.cells
    have c3 := hY.cells
    have c4 := hZ.cells
    have c5 := hY.free
    have c6 := hZ.free
    have HB3 := Lib.hid hB3
    have HB3s := hB3.size
    have hn1 : ¬ w.heap.size = w2.heap.size := by omega
    have hn2 : ¬ w.heap.size = w2.heap.size + 1 := by omega
    have hn3 : ¬ w1.heap.size = w2.heap.size := by omega
    have hn4 : ¬ w1.heap.size = w2.heap.size + 1 := by omega
    have hn5 : ¬ w2.heap.size = w2.heap.size + 1 := by omega
    clear hT hX hY hZ hB3 HT HX HB
    have j0 := tok4_0
    have j1 := tok4_1
    have j2 := tok4_2
    have j3 := tok4_3
    go_wp2
  · refine at_world (R := Code.wp _ _ _ _) (F := fun w7 => Below w.heap.size w w7) ((HB3.out.setCell (p := ⟨w2.heap.size, 0, none⟩) (by simp; omega) _).setCell (p := ⟨w2.heap.size + 1, 2, none⟩) (by simp; omega) _) ?_
    rintro w7 hB7
    have HB7 := Lib.hid hB7
    clear hB7 HB3 c1 c2 c3 c4 c5 c6
    go_loopw [35] (fun i wr => ∃ k : Nat, k ≤ 4 ∧ i = .int .i64 k ∧ Below w.heap.size w wr) (fun i _ => 4 - (intOf i).toNat)
    case atStart => exact ⟨0, by omega, rfl, HB7.out⟩
    case round =>
      obtain ⟨j, hj, rfl, hBj⟩ := hrel
      have HBJ := Lib.hid hBj
      clear hBj HB7
      by_cases hj4 : j = 4
      · subst hj4
        go_wp2_with fail
        refine (words_any _).mono ?_
        rintro e w4 ⟨rfl, hw4⟩
        have HL4 := Lib.hid (words_list hw4)
        have HB4 := Lib.hid (words_below HBJ.out hw4)
        clear hw4
        go_wp2_with fail
        refine (rwords_any _).mono ?_
        rintro e w5 ⟨rfl, hw5⟩
        have HL5 := Lib.hid (words_list hw5)
        have HL5' := Lib.hid (HL4.out.below (words_below (Below.refl _ _) hw5))
        have HB5 := Lib.hid (words_below HB4.out hw5)
        clear hw5 HL4 HB4
        go_wp2_with fail
        refine (same_pos _ _ _ _ HL5'.out HL5.out (by decide)).mono ?_
        rintro e w6 ⟨rfl, hb6⟩
        have HB6 := Lib.hid (HB5.out.trans (hb6.mono HB5.out.size))
        clear hb6 HL5 HL5' HB5
        go_wp2_with fail
        refine (signs_any _).mono ?_
        rintro e w4 ⟨rfl, hw4⟩
        have HL4 := Lib.hid (signs_list hw4)
        have HB4 := Lib.hid (signs_below HB6.out hw4)
        clear hw4
        go_wp2_with fail
        refine (rsigns_any _).mono ?_
        rintro e w5 ⟨rfl, hw5⟩
        have HL5 := Lib.hid (signs_list hw5)
        have HL5' := Lib.hid (HL4.out.below (signs_below (Below.refl _ _) hw5))
        have HB5 := Lib.hid (signs_below HB4.out hw5)
        clear hw5 HL4 HB4
        go_wp2_with fail
        refine (same_pos _ _ _ _ HL5'.out HL5.out (by decide)).mono ?_
        rintro e w7 ⟨rfl, hb7⟩
        have HB8 := Lib.hid (HB5.out.trans (hb7.mono HB5.out.size))
        clear hb7 HL5 HL5' HB5
        go_wp2_with fail
        refine (works_any _).mono ?_
        rintro e w9 ⟨rfl, hb9⟩
        go_wp2
        go_ret
        exact ⟨rfl, HB8.out.trans (hb9.mono HB8.out.size)⟩
      · obtain hj0 | hj0 | hj0 | hj0 : j = 0 ∨ j = 1 ∨ j = 2 ∨ j = 3 := by omega
        · subst hj0
          obtain ⟨E, hE⟩ : ∃ E, checkE (kd) (ByteArray.data (tx.extract 0 (min (tx.size : Int) 20).toNat)).toList (at_) = E := ⟨_, rfl⟩
          have HEQ := Lib.hid hE
          clear hE
          have hsz : (tx.extract 0 (min (tx.size : Int) 20).toNat).size ≤ 1000000 := hxs
          go_wp2_with fail
          refine wp_world (F := fun w4 => TokAt w4 wr.heap.size (kd) (tx.extract 0 (min (tx.size : Int) 20).toNat) (at_) ∧ Below w.heap.size w w4) ⟨tok_new _ _ _ _, HBJ.out.alloc HBJ.out.size _⟩ ?_
          rintro w4 ⟨hT4, hB4⟩
          have q := hT4.cells
          have HB4 := Lib.hid hB4
          have d0 : ∀ x : Later w4, x.world.cell? ⟨wr.heap.size, 0, none⟩ = some (.int .i64 (kd)) := fun x => later_cell q.1 x
          have d1 : ∀ x : Later w4, x.world.cell? ⟨wr.heap.size, 1, none⟩ = some (.string (tx.extract 0 (min (tx.size : Int) 20).toNat)) := fun x => later_cell q.2.1 x
          have d2 : ∀ x : Later w4, x.world.cell? ⟨wr.heap.size, 2, none⟩ = some (.int .i64 (at_)) := fun x => later_cell q.2.2 x
          clear hT4 hB4 q
          refine wp_region_later (by kernel_rfl) (by kernel_rfl) ?_
          repeat (go_big_quiet_step (((first | go_at_call 11; exact Calls.later_of (check_e _ _ _ _ E HEQ.out hsz) | go_at_call 12; exact Calls.later_of (rcheck_e _ _ _ _ E HEQ.out hsz)))))
          refine wpQuiet_nil ?_
          intro w5 hb5
          have HB5 := Lib.hid (HB4.out.trans (hb5.mono HB4.out.size))
          clear hb5 HB4
          go_wp2
          go_roundw
          case rel => first | exact ⟨1, by omega, rfl, HB5.out⟩ | exact ⟨2, by omega, rfl, HB5.out⟩ | exact ⟨3, by omega, rfl, HB5.out⟩ | exact ⟨4, by omega, rfl, HB5.out⟩
          case measure => simp [intOf]
        · subst hj0
          obtain ⟨E, hE⟩ : ∃ E, checkE (dk) (ByteArray.data (bytesOf dt)).toList (dp) = E := ⟨_, rfl⟩
          have HEQ := Lib.hid hE
          clear hE
          have hsz : (bytesOf dt).size ≤ 1000000 := hds
          go_wp2_with fail
          refine wp_world (F := fun w4 => TokAt w4 wr.heap.size (dk) (bytesOf dt) (dp) ∧ Below w.heap.size w w4) ⟨tok_new _ _ _ _, HBJ.out.alloc HBJ.out.size _⟩ ?_
          rintro w4 ⟨hT4, hB4⟩
          have q := hT4.cells
          have HB4 := Lib.hid hB4
          have d0 : ∀ x : Later w4, x.world.cell? ⟨wr.heap.size, 0, none⟩ = some (.int .i64 (dk)) := fun x => later_cell q.1 x
          have d1 : ∀ x : Later w4, x.world.cell? ⟨wr.heap.size, 1, none⟩ = some (.string (bytesOf dt)) := fun x => later_cell q.2.1 x
          have d2 : ∀ x : Later w4, x.world.cell? ⟨wr.heap.size, 2, none⟩ = some (.int .i64 (dp)) := fun x => later_cell q.2.2 x
          clear hT4 hB4 q
          refine wp_region_later (by kernel_rfl) (by kernel_rfl) ?_
          repeat (go_big_quiet_step (((first | go_at_call 11; exact Calls.later_of (check_e _ _ _ _ E HEQ.out hsz) | go_at_call 12; exact Calls.later_of (rcheck_e _ _ _ _ E HEQ.out hsz)))))
          refine wpQuiet_nil ?_
          intro w5 hb5
          have HB5 := Lib.hid (HB4.out.trans (hb5.mono HB4.out.size))
          clear hb5 HB4
          go_wp2
          go_roundw
          case rel => first | exact ⟨1, by omega, rfl, HB5.out⟩ | exact ⟨2, by omega, rfl, HB5.out⟩ | exact ⟨3, by omega, rfl, HB5.out⟩ | exact ⟨4, by omega, rfl, HB5.out⟩
          case measure => simp [intOf]
        · subst hj0
          obtain ⟨E, hE⟩ : ∃ E, checkE (kind) (ByteArray.data (bytesOf dt)).toList (dp) = E := ⟨_, rfl⟩
          have HEQ := Lib.hid hE
          clear hE
          have hsz : (bytesOf dt).size ≤ 1000000 := hds
          go_wp2_with fail
          refine wp_world (F := fun w4 => TokAt w4 wr.heap.size (kind) (bytesOf dt) (dp) ∧ Below w.heap.size w w4) ⟨tok_new _ _ _ _, HBJ.out.alloc HBJ.out.size _⟩ ?_
          rintro w4 ⟨hT4, hB4⟩
          have q := hT4.cells
          have HB4 := Lib.hid hB4
          have d0 : ∀ x : Later w4, x.world.cell? ⟨wr.heap.size, 0, none⟩ = some (.int .i64 (kind)) := fun x => later_cell q.1 x
          have d1 : ∀ x : Later w4, x.world.cell? ⟨wr.heap.size, 1, none⟩ = some (.string (bytesOf dt)) := fun x => later_cell q.2.1 x
          have d2 : ∀ x : Later w4, x.world.cell? ⟨wr.heap.size, 2, none⟩ = some (.int .i64 (dp)) := fun x => later_cell q.2.2 x
          clear hT4 hB4 q
          refine wp_region_later (by kernel_rfl) (by kernel_rfl) ?_
          repeat (go_big_quiet_step (((first | go_at_call 11; exact Calls.later_of (check_e _ _ _ _ E HEQ.out hsz) | go_at_call 12; exact Calls.later_of (rcheck_e _ _ _ _ E HEQ.out hsz)))))
          refine wpQuiet_nil ?_
          intro w5 hb5
          have HB5 := Lib.hid (HB4.out.trans (hb5.mono HB4.out.size))
          clear hb5 HB4
          go_wp2
          go_roundw
          case rel => first | exact ⟨1, by omega, rfl, HB5.out⟩ | exact ⟨2, by omega, rfl, HB5.out⟩ | exact ⟨3, by omega, rfl, HB5.out⟩ | exact ⟨4, by omega, rfl, HB5.out⟩
          case measure => simp [intOf]
        · subst hj0
          obtain ⟨E, hE⟩ : ∃ E, checkE (dk) (ByteArray.data (bytesOf dt)).toList (ix) = E := ⟨_, rfl⟩
          have HEQ := Lib.hid hE
          clear hE
          have hsz : (bytesOf dt).size ≤ 1000000 := hds
          go_wp2_with fail
          refine wp_world (F := fun w4 => TokAt w4 wr.heap.size (dk) (bytesOf dt) (ix) ∧ Below w.heap.size w w4) ⟨tok_new _ _ _ _, HBJ.out.alloc HBJ.out.size _⟩ ?_
          rintro w4 ⟨hT4, hB4⟩
          have q := hT4.cells
          have HB4 := Lib.hid hB4
          have d0 : ∀ x : Later w4, x.world.cell? ⟨wr.heap.size, 0, none⟩ = some (.int .i64 (dk)) := fun x => later_cell q.1 x
          have d1 : ∀ x : Later w4, x.world.cell? ⟨wr.heap.size, 1, none⟩ = some (.string (bytesOf dt)) := fun x => later_cell q.2.1 x
          have d2 : ∀ x : Later w4, x.world.cell? ⟨wr.heap.size, 2, none⟩ = some (.int .i64 (ix)) := fun x => later_cell q.2.2 x
          clear hT4 hB4 q
          refine wp_region_later (by kernel_rfl) (by kernel_rfl) ?_
          repeat (go_big_quiet_step (((first | go_at_call 11; exact Calls.later_of (check_e _ _ _ _ E HEQ.out hsz) | go_at_call 12; exact Calls.later_of (rcheck_e _ _ _ _ E HEQ.out hsz)))))
          refine wpQuiet_nil ?_
          intro w5 hb5
          have HB5 := Lib.hid (HB4.out.trans (hb5.mono HB4.out.size))
          clear hb5 HB4
          go_wp2
          go_roundw
          case rel => first | exact ⟨1, by omega, rfl, HB5.out⟩ | exact ⟨2, by omega, rfl, HB5.out⟩ | exact ⟨3, by omega, rfl, HB5.out⟩ | exact ⟨4, by omega, rfl, HB5.out⟩
          case measure => simp [intOf]
  · refine at_world (R := Code.wp _ _ _ _) (F := fun w7 => Below w.heap.size w w7) ((HB3.out.setCell (p := ⟨w2.heap.size + 1, 0, none⟩) (by simp; omega) _).setCell (p := ⟨w2.heap.size, 2, none⟩) (by simp; omega) _) ?_
    rintro w7 hB7
    have HB7 := Lib.hid hB7
    clear hB7 HB3 c1 c2 c3 c4 c5 c6
    go_loopw [35] (fun i wr => ∃ k : Nat, k ≤ 4 ∧ i = .int .i64 k ∧ Below w.heap.size w wr) (fun i _ => 4 - (intOf i).toNat)
    case atStart => exact ⟨0, by omega, rfl, HB7.out⟩
    case round =>
      obtain ⟨j, hj, rfl, hBj⟩ := hrel
      have HBJ := Lib.hid hBj
      clear hBj HB7
      by_cases hj4 : j = 4
      · subst hj4
        go_wp2_with fail
        refine (words_any _).mono ?_
        rintro e w4 ⟨rfl, hw4⟩
        have HL4 := Lib.hid (words_list hw4)
        have HB4 := Lib.hid (words_below HBJ.out hw4)
        clear hw4
        go_wp2_with fail
        refine (rwords_any _).mono ?_
        rintro e w5 ⟨rfl, hw5⟩
        have HL5 := Lib.hid (words_list hw5)
        have HL5' := Lib.hid (HL4.out.below (words_below (Below.refl _ _) hw5))
        have HB5 := Lib.hid (words_below HB4.out hw5)
        clear hw5 HL4 HB4
        go_wp2_with fail
        refine (same_pos _ _ _ _ HL5'.out HL5.out (by decide)).mono ?_
        rintro e w6 ⟨rfl, hb6⟩
        have HB6 := Lib.hid (HB5.out.trans (hb6.mono HB5.out.size))
        clear hb6 HL5 HL5' HB5
        go_wp2_with fail
        refine (signs_any _).mono ?_
        rintro e w4 ⟨rfl, hw4⟩
        have HL4 := Lib.hid (signs_list hw4)
        have HB4 := Lib.hid (signs_below HB6.out hw4)
        clear hw4
        go_wp2_with fail
        refine (rsigns_any _).mono ?_
        rintro e w5 ⟨rfl, hw5⟩
        have HL5 := Lib.hid (signs_list hw5)
        have HL5' := Lib.hid (HL4.out.below (signs_below (Below.refl _ _) hw5))
        have HB5 := Lib.hid (signs_below HB4.out hw5)
        clear hw5 HL4 HB4
        go_wp2_with fail
        refine (same_pos _ _ _ _ HL5'.out HL5.out (by decide)).mono ?_
        rintro e w7 ⟨rfl, hb7⟩
        have HB8 := Lib.hid (HB5.out.trans (hb7.mono HB5.out.size))
        clear hb7 HL5 HL5' HB5
        go_wp2_with fail
        refine (works_any _).mono ?_
        rintro e w9 ⟨rfl, hb9⟩
        go_wp2
        go_ret
        exact ⟨rfl, HB8.out.trans (hb9.mono HB8.out.size)⟩
      · obtain hj0 | hj0 | hj0 | hj0 : j = 0 ∨ j = 1 ∨ j = 2 ∨ j = 3 := by omega
        · subst hj0
          obtain ⟨E, hE⟩ : ∃ E, checkE (kd) (ByteArray.data (tx.extract 0 (min (tx.size : Int) 20).toNat)).toList (at_) = E := ⟨_, rfl⟩
          have HEQ := Lib.hid hE
          clear hE
          have hsz : (tx.extract 0 (min (tx.size : Int) 20).toNat).size ≤ 1000000 := hxs
          go_wp2_with fail
          refine wp_world (F := fun w4 => TokAt w4 wr.heap.size (kd) (tx.extract 0 (min (tx.size : Int) 20).toNat) (at_) ∧ Below w.heap.size w w4) ⟨tok_new _ _ _ _, HBJ.out.alloc HBJ.out.size _⟩ ?_
          rintro w4 ⟨hT4, hB4⟩
          have q := hT4.cells
          have HB4 := Lib.hid hB4
          have d0 : ∀ x : Later w4, x.world.cell? ⟨wr.heap.size, 0, none⟩ = some (.int .i64 (kd)) := fun x => later_cell q.1 x
          have d1 : ∀ x : Later w4, x.world.cell? ⟨wr.heap.size, 1, none⟩ = some (.string (tx.extract 0 (min (tx.size : Int) 20).toNat)) := fun x => later_cell q.2.1 x
          have d2 : ∀ x : Later w4, x.world.cell? ⟨wr.heap.size, 2, none⟩ = some (.int .i64 (at_)) := fun x => later_cell q.2.2 x
          clear hT4 hB4 q
          refine wp_region_later (by kernel_rfl) (by kernel_rfl) ?_
          repeat (go_big_quiet_step (((first | go_at_call 11; exact Calls.later_of (check_e _ _ _ _ E HEQ.out hsz) | go_at_call 12; exact Calls.later_of (rcheck_e _ _ _ _ E HEQ.out hsz)))))
          refine wpQuiet_nil ?_
          intro w5 hb5
          have HB5 := Lib.hid (HB4.out.trans (hb5.mono HB4.out.size))
          clear hb5 HB4
          go_wp2
          go_roundw
          case rel => first | exact ⟨1, by omega, rfl, HB5.out⟩ | exact ⟨2, by omega, rfl, HB5.out⟩ | exact ⟨3, by omega, rfl, HB5.out⟩ | exact ⟨4, by omega, rfl, HB5.out⟩
          case measure => simp [intOf]
        · subst hj0
          obtain ⟨E, hE⟩ : ∃ E, checkE (dk) (ByteArray.data (bytesOf dt)).toList (dp) = E := ⟨_, rfl⟩
          have HEQ := Lib.hid hE
          clear hE
          have hsz : (bytesOf dt).size ≤ 1000000 := hds
          go_wp2_with fail
          refine wp_world (F := fun w4 => TokAt w4 wr.heap.size (dk) (bytesOf dt) (dp) ∧ Below w.heap.size w w4) ⟨tok_new _ _ _ _, HBJ.out.alloc HBJ.out.size _⟩ ?_
          rintro w4 ⟨hT4, hB4⟩
          have q := hT4.cells
          have HB4 := Lib.hid hB4
          have d0 : ∀ x : Later w4, x.world.cell? ⟨wr.heap.size, 0, none⟩ = some (.int .i64 (dk)) := fun x => later_cell q.1 x
          have d1 : ∀ x : Later w4, x.world.cell? ⟨wr.heap.size, 1, none⟩ = some (.string (bytesOf dt)) := fun x => later_cell q.2.1 x
          have d2 : ∀ x : Later w4, x.world.cell? ⟨wr.heap.size, 2, none⟩ = some (.int .i64 (dp)) := fun x => later_cell q.2.2 x
          clear hT4 hB4 q
          refine wp_region_later (by kernel_rfl) (by kernel_rfl) ?_
          repeat (go_big_quiet_step (((first | go_at_call 11; exact Calls.later_of (check_e _ _ _ _ E HEQ.out hsz) | go_at_call 12; exact Calls.later_of (rcheck_e _ _ _ _ E HEQ.out hsz)))))
          refine wpQuiet_nil ?_
          intro w5 hb5
          have HB5 := Lib.hid (HB4.out.trans (hb5.mono HB4.out.size))
          clear hb5 HB4
          go_wp2
          go_roundw
          case rel => first | exact ⟨1, by omega, rfl, HB5.out⟩ | exact ⟨2, by omega, rfl, HB5.out⟩ | exact ⟨3, by omega, rfl, HB5.out⟩ | exact ⟨4, by omega, rfl, HB5.out⟩
          case measure => simp [intOf]
        · subst hj0
          obtain ⟨E, hE⟩ : ∃ E, checkE (kind) (ByteArray.data (bytesOf dt)).toList (dp) = E := ⟨_, rfl⟩
          have HEQ := Lib.hid hE
          clear hE
          have hsz : (bytesOf dt).size ≤ 1000000 := hds
          go_wp2_with fail
          refine wp_world (F := fun w4 => TokAt w4 wr.heap.size (kind) (bytesOf dt) (dp) ∧ Below w.heap.size w w4) ⟨tok_new _ _ _ _, HBJ.out.alloc HBJ.out.size _⟩ ?_
          rintro w4 ⟨hT4, hB4⟩
          have q := hT4.cells
          have HB4 := Lib.hid hB4
          have d0 : ∀ x : Later w4, x.world.cell? ⟨wr.heap.size, 0, none⟩ = some (.int .i64 (kind)) := fun x => later_cell q.1 x
          have d1 : ∀ x : Later w4, x.world.cell? ⟨wr.heap.size, 1, none⟩ = some (.string (bytesOf dt)) := fun x => later_cell q.2.1 x
          have d2 : ∀ x : Later w4, x.world.cell? ⟨wr.heap.size, 2, none⟩ = some (.int .i64 (dp)) := fun x => later_cell q.2.2 x
          clear hT4 hB4 q
          refine wp_region_later (by kernel_rfl) (by kernel_rfl) ?_
          repeat (go_big_quiet_step (((first | go_at_call 11; exact Calls.later_of (check_e _ _ _ _ E HEQ.out hsz) | go_at_call 12; exact Calls.later_of (rcheck_e _ _ _ _ E HEQ.out hsz)))))
          refine wpQuiet_nil ?_
          intro w5 hb5
          have HB5 := Lib.hid (HB4.out.trans (hb5.mono HB4.out.size))
          clear hb5 HB4
          go_wp2
          go_roundw
          case rel => first | exact ⟨1, by omega, rfl, HB5.out⟩ | exact ⟨2, by omega, rfl, HB5.out⟩ | exact ⟨3, by omega, rfl, HB5.out⟩ | exact ⟨4, by omega, rfl, HB5.out⟩
          case measure => simp [intOf]
        · subst hj0
          obtain ⟨E, hE⟩ : ∃ E, checkE (dk) (ByteArray.data (bytesOf dt)).toList (ix) = E := ⟨_, rfl⟩
          have HEQ := Lib.hid hE
          clear hE
          have hsz : (bytesOf dt).size ≤ 1000000 := hds
          go_wp2_with fail
          refine wp_world (F := fun w4 => TokAt w4 wr.heap.size (dk) (bytesOf dt) (ix) ∧ Below w.heap.size w w4) ⟨tok_new _ _ _ _, HBJ.out.alloc HBJ.out.size _⟩ ?_
          rintro w4 ⟨hT4, hB4⟩
          have q := hT4.cells
          have HB4 := Lib.hid hB4
          have d0 : ∀ x : Later w4, x.world.cell? ⟨wr.heap.size, 0, none⟩ = some (.int .i64 (dk)) := fun x => later_cell q.1 x
          have d1 : ∀ x : Later w4, x.world.cell? ⟨wr.heap.size, 1, none⟩ = some (.string (bytesOf dt)) := fun x => later_cell q.2.1 x
          have d2 : ∀ x : Later w4, x.world.cell? ⟨wr.heap.size, 2, none⟩ = some (.int .i64 (ix)) := fun x => later_cell q.2.2 x
          clear hT4 hB4 q
          refine wp_region_later (by kernel_rfl) (by kernel_rfl) ?_
          repeat (go_big_quiet_step (((first | go_at_call 11; exact Calls.later_of (check_e _ _ _ _ E HEQ.out hsz) | go_at_call 12; exact Calls.later_of (rcheck_e _ _ _ _ E HEQ.out hsz)))))
          refine wpQuiet_nil ?_
          intro w5 hb5
          have HB5 := Lib.hid (HB4.out.trans (hb5.mono HB4.out.size))
          clear hb5 HB4
          go_wp2
          go_roundw
          case rel => first | exact ⟨1, by omega, rfl, HB5.out⟩ | exact ⟨2, by omega, rfl, HB5.out⟩ | exact ⟨3, by omega, rfl, HB5.out⟩ | exact ⟨4, by omega, rfl, HB5.out⟩
          case measure => simp [intOf]
end Go.Proofs.Ytigppjgmfonodaa
