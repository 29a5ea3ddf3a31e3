/- one of the reference: what a call computes. -/
import Derived.Test.YtigppjgmfonodaaLexQ
import Derived.Test.YtigppjgmfonodaaTail
import Derived.Test.YtigppjgmfonodaaLexL
import Derived.BigRegion
import Derived.Deep.CutBlock
import Derived.Deep.RegionHeld3
namespace Go.Proofs.Ytigppjgmfonodaa
open Go.RowKit

def ROnePost (s : ByteArray) (k : Nat) (w : World) (e : Ending) (w' : World) : Prop :=
  e = .returned (.tuple #[.agg #[.int .i64 (oneT (s.data.toList.drop k)).1, .string (bytesOf (oneT (s.data.toList.drop k)).2), .int .i64 k], .bool (rightB (oneT (s.data.toList.drop k)).1 (oneT (s.data.toList.drop k)).2)]) ∧ Below w.heap.size w w'

def OneCut (s : ByteArray) (k : Nat) (w w' : World) : Prop :=
  ∃ tx : ByteArray, TokAt w' (w.heap.size + 1) (oneT (s.data.toList.drop k)).1 tx k ∧ tx.data.toList = (oneT (s.data.toList.drop k)).2 ∧ TokAt w' w.heap.size 0 ⟨#[]⟩ 0 ∧ Below w.heap.size w w'

theorem extract_one {s : ByteArray} {k : Nat} : (s.extract k (k + 1)).data.toList = (s.data.toList.drop k).take 1 := by
  rw [extract_list, show k + 1 - k = 1 from by omega]
theorem extract_two' {s : ByteArray} {k : Nat} : (s.extract k (k + 2)).data.toList = (s.data.toList.drop k).take 2 := by
  rw [extract_list, show k + 2 - k = 2 from by omega]
theorem two_one {s : ByteArray} {k : Nat} (h : ¬ k + 2 ≤ s.size) : (s.data.toList.drop k).take 2 = (s.data.toList.drop k).take 1 := by
  rw [List.take_of_length_le (by simp; omega), List.take_of_length_le (by simp; omega)]

set_option maxRecDepth 100000 in
set_option maxHeartbeats 4000000 in
theorem rone_any (s : ByteArray) (k : Nat) (w : World) (hs : s.size ≤ 1000000) (hk : k < s.size) :
    Calls Try.prog 38 #[.string s, .int .i64 k] w (ROnePost s k w) := by
  go_enter Try.func38, Try.ntmps38
  go_wp2
  go_loop [6] (fun i => ∃ e : Nat, k ≤ e ∧ e ≤ s.size ∧ i = .int .i64 e ∧ ((s.data.toList.drop k).take (e - k)).all partB = true) (fun i => s.size - (intOf i).toNat)
  case atStart => exact ⟨k, Nat.le_refl _, by omega, rfl, by simp⟩
  case round =>
    obtain ⟨e, he1, he2, rfl, hall⟩ := hrel
    have HA := Lib.hid hall
    clear hall
    by_cases hmore : ∃ h : e < s.size, partB s[e] = true
    · obtain ⟨hlt, hp⟩ := hmore
      have HP := Lib.hid hp
      go_wp2_with (go_at_call 57; refine (part_any _ _).mono ?_; rintro e' w1 ⟨rfl, rfl⟩)
      go_round
      case rel =>
        refine ⟨e + 1, by omega, by omega, by go_num, ?_⟩
        rw [show e + 1 - k = (e - k) + 1 from by omega]
        exact wb_step (by simp; omega) HA.out (by rw [drop_at hlt he1]; exact HP.out)
      case measure => simp [intOf]; omega
    · have HW : Hid ((s.data.toList.drop k).takeWhile partB = (s.data.toList.drop k).take (e - k)) := Lib.hid (takeWhile_of (by simp; omega) HA.out (fun h' => by
        have hlt : e < s.size := by simp at h'; omega
        have : partB s[e] = false := by
          cases hp : partB s[e]
          · rfl
          · exact absurd ⟨hlt, hp⟩ hmore
        rw [drop_at hlt he1]; exact this))
      by_cases hlt : e < s.size
      · have hp : partB s[e] = false := by
          cases hp : partB s[e]
          · rfl
          · exact absurd ⟨hlt, hp⟩ hmore
        clear hmore
        go_wp2_with fail
        refine (part_any _ _).mono ?_
        rintro e' w1 ⟨rfl, rfl⟩
        go_upto_block 2 with (fail)
        have hne : ¬ w.heap.size = w.heap.size + 1 := by omega
        go_cut [] (fun w' => OneCut s k w w')
        case first =>
          refine wp_world (F := fun w' => TokAt w' (w.heap.size + 1) 0 ⟨#[]⟩ k ∧ TokAt w' w.heap.size 0 ⟨#[]⟩ 0 ∧ Below w.heap.size w w') ⟨heap_alloc_at (by simp), heap_alloc_lt (heap_alloc_at rfl), ((Below.refl _ _).alloc (Nat.le_refl _) _).alloc (by simp) _⟩ ?_
          rintro w2 ⟨hT2, hZ2, hB2⟩
          have HT2 := Lib.hid hT2
          have HZ2 := Lib.hid hZ2
          have HB2 := Lib.hid hB2
          have d20 := hT2.cells
          have d21 := hT2.free
          have d22 := lt_of_blk hT2
          clear hT2 hZ2 hB2
          cases hlet : letterB s[k]
          · cases hdig : digitB s[k]
            · have HS : Hid (oneT (s.data.toList.drop k) = (4, if memL signBytes ((s.data.toList.drop k).take 2) then (s.data.toList.drop k).take 2 else (s.data.toList.drop k).take 1)) := Lib.hid (oneT_sign hk hlet hdig)
              go_wp2_with (first | (go_at_call 58; refine (letter_any _ _).mono ?_; rintro e' w' ⟨rfl, rfl⟩) | (go_at_call 59; refine (digit_any _ _).mono ?_; rintro e' w' ⟨rfl, rfl⟩))
              have g1 : (0 : Int) ≤ (k : Int) + 1 := by omega
              have g2 : (k : Int) + 1 ≤ s.size := by omega
              have g3 : ((k : Int) + 1).toNat = k + 1 := by omega
              have g4 : IntKind.i64.wrap ((k : Int) + 1) = (k : Int) + 1 := IntWalk.i64_in _ (by omega)
              go_region
              go_wp2_with fail
              clear g1 g2 g3 g4
              refine wp_world (F := fun w' => TokAt w' (w.heap.size + 1) (4) (s.extract k (k + 1)) k ∧ TokAt w' w.heap.size 0 ⟨#[]⟩ 0 ∧ Below w.heap.size w w') ⟨(HT2.out.set0 4).set1 _, (HZ2.out.far hne _ _).far hne _ _, ((HB2.out.setCell (p := ⟨w.heap.size + 1, 0, none⟩) (Nat.le_succ _) _).setCell (p := ⟨w.heap.size + 1, 1, none⟩) (Nat.le_succ _) _).drew⟩ ?_
              rintro w3 ⟨hT3, hZ3, hB3⟩
              clear d20 d21 d22 HT2 HZ2 HB2
              have HT3 := Lib.hid hT3
              have HZ3 := Lib.hid hZ3
              have HB3 := Lib.hid hB3
              have d30 := hT3.cells
              have d31 := hT3.free
              have d32 := lt_of_blk hT3
              clear hT3 hZ3 hB3
              have d31' := d31.2.1
              by_cases h2 : k + 2 ≤ s.size
              · have g1 : decide ((k : Int) + 2 ≤ s.size) = true := by simp; omega
                have g5 : (0 : Int) ≤ (k : Int) + 2 := by omega
                have g6 : (k : Int) ≤ (k : Int) + 2 := by omega
                have g7 : (0 : Int) ≤ (k : Int) := by omega
                have g8 : ((k : Int)).toNat = k := by omega
                have g2 : (k : Int) + 2 ≤ s.size := by omega
                have g3 : ((k : Int) + 2).toNat = k + 2 := by omega
                have g4 : IntKind.i64.wrap ((k : Int) + 2) = (k : Int) + 2 := IntWalk.i64_in _ (by omega)
                have HB4 := Lib.hid (((Below.refl w3.heap.size w3).alloc (Nat.le_refl _) (.cells signCells 9)).drew)
                have HT5 := Lib.hid (HT3.out.set1 (s.extract k (k + 2)))
                have HZ5 := Lib.hid (HZ3.out.far hne 1 (.string (s.extract k (k + 2))))
                have HB5 := Lib.hid (HB3.out.setCell (p := ⟨w.heap.size + 1, 1, none⟩) (Nat.le_succ _) (.string (s.extract k (k + 2))))
                have HB6 := Lib.hid (((Below.refl (w3.setCell ⟨w.heap.size + 1, 1, none⟩ (.string (s.extract k (k + 2)))).heap.size (w3.setCell ⟨w.heap.size + 1, 1, none⟩ (.string (s.extract k (k + 2))))).alloc (Nat.le_refl _) (.cells signCells 9)).drew)
                cases hm : memB signList (s.extract k (k + 2))
                · have HO : Hid (oneT (s.data.toList.drop k) = (4, (s.extract k (k + 1)).data.toList)) := Lib.hid (by
                    rw [HS.out, ← extract_two', ← memB_signs, hm, extract_one]; rfl)
                  clear hlet hdig
                  go_region_held3 (fun _ => True) (trivial) (first | (go_at_call 17; refine (rsigns_any _).mono ?_; rintro e w' ⟨rfl, rfl⟩) | (go_at_call 51; refine (in_any _ 21 _ signList _ _ rfl (by omega) (signs_cells_d _)).mono ?_; rintro e w' ⟨rfl, rfl⟩))
                  all_goals clear g1 g2 g3 g4 g5 g6 g7 g8
                  all_goals go_wp2_with fail
                  all_goals go_meet
                  all_goals exact ⟨s.extract k (k + 1), by rw [HO.out]; exact HT3.out.below HB4.out, by rw [HO.out], HZ3.out.below HB4.out, HB3.out.trans (HB4.out.mono HB3.out.size)⟩
                · have HO : Hid (oneT (s.data.toList.drop k) = (4, (s.extract k (k + 2)).data.toList)) := Lib.hid (by
                    rw [HS.out, ← extract_two', ← memB_signs, hm]; rfl)
                  clear hlet hdig
                  go_region_held3 (fun _ => True) (trivial) (first | (go_at_call 17; refine (rsigns_any _).mono ?_; rintro e w' ⟨rfl, rfl⟩) | (go_at_call 51; refine (in_any _ 21 _ signList _ _ rfl (by omega) (signs_cells_d _)).mono ?_; rintro e w' ⟨rfl, rfl⟩))
                  all_goals go_wp2_with fail
                  all_goals go_meet
                  all_goals exact ⟨s.extract k (k + 2), by rw [HO.out]; exact HT5.out.below HB6.out, by rw [HO.out], HZ5.out.below HB6.out, HB5.out.trans (HB6.out.mono HB5.out.size)⟩
              · have g1 : decide ((k : Int) + 2 ≤ s.size) = false := by simp; omega
                have g4 : IntKind.i64.wrap ((k : Int) + 2) = (k : Int) + 2 := IntWalk.i64_in _ (by omega)
                have HO : Hid (oneT (s.data.toList.drop k) = (4, (s.extract k (k + 1)).data.toList)) := Lib.hid (by
                    rw [HS.out, two_one h2, ← extract_one]; simp)
                refine wp_region_later (by kernel_rfl) (by kernel_rfl) ?_
                repeat (go_big_quiet_step (fail))
                refine wpQuiet_nil ?_
                intro w4 hb4
                clear g1 g4
                go_wp2_with fail
                go_meet
                case rel => exact ⟨s.extract k (k + 1), by rw [HO.out]; exact HT3.out.below hb4, by rw [HO.out], HZ3.out.below hb4, HB3.out.trans (hb4.mono HB3.out.size)⟩
            · have HO : Hid (oneT (s.data.toList.drop k) = (3, (s.extract k e).data.toList)) := Lib.hid (by rw [oneT_digit hk hlet hdig, extract_list, ← HW.out])
              go_wp2_with (first | (go_at_call 58; refine (letter_any _ _).mono ?_; rintro e' w' ⟨rfl, rfl⟩) | (go_at_call 59; refine (digit_any _ _).mono ?_; rintro e' w' ⟨rfl, rfl⟩))
              go_region
              go_wp2_with fail
              go_meet
              case rel =>
                exact ⟨s.extract k e, by rw [HO.out]; exact (HT2.out.set0 3).set1 _, by rw [HO.out], (HZ2.out.far hne _ _).far hne _ _, ((HB2.out.setCell (p := ⟨w.heap.size + 1, 0, none⟩) (Nat.le_succ _) _).setCell (p := ⟨w.heap.size + 1, 1, none⟩) (Nat.le_succ _) _).drew⟩
          · go_wp2_with (go_at_call 58; refine (letter_any _ _).mono ?_; rintro e' w' ⟨rfl, rfl⟩)
            go_region
            go_wp2_with fail
            refine wp_world (F := fun w' => TokAt w' (w.heap.size + 1) (1) (s.extract k e) k ∧ TokAt w' w.heap.size 0 ⟨#[]⟩ 0 ∧ Below w.heap.size w w') ⟨(HT2.out.set0 1).set1 _, (HZ2.out.far hne _ _).far hne _ _, ((HB2.out.setCell (p := ⟨w.heap.size + 1, 0, none⟩) (Nat.le_succ _) _).setCell (p := ⟨w.heap.size + 1, 1, none⟩) (Nat.le_succ _) _).drew⟩ ?_
            rintro w3 ⟨hT3, hZ3, hB3⟩
            clear d20 d21 d22 HT2 HZ2 HB2
            have HT3 := Lib.hid hT3
            have HZ3 := Lib.hid hZ3
            have HB3 := Lib.hid hB3
            have d30 := hT3.cells
            have d31 := hT3.free
            have d32 := lt_of_blk hT3
            clear hT3 hZ3 hB3
            have HX : Hid ((s.extract k e).data.toList = (s.data.toList.drop k).takeWhile partB) := Lib.hid (by rw [HW.out, extract_list])
            have hb4 : Below w3.heap.size w3 (w3.alloc (.cells wordCells 9)).drew := ((Below.refl _ _).alloc (Nat.le_refl _) _).drew
            have HB4 := Lib.hid hb4
            clear hb4
            have d31' := d31.1
            cases hm : memB wordList (s.extract k e)
            · have HO : Hid (oneT (s.data.toList.drop k) = (1, (s.extract k e).data.toList)) := Lib.hid (by rw [oneT_letter hk hlet, HX.out, ← HX.out, ← memB_words, hm]; rfl)
              clear hlet
              go_region_held3 (fun w' => w'.cell? ⟨w.heap.size + 1, 1, none⟩ = some (.string (s.extract k e))) (go_keep) (first | (go_at_call 15; refine (rwords_any _).mono ?_; rintro e w' ⟨rfl, rfl⟩) | (go_at_call 51; refine (in_any _ 23 _ wordList _ _ rfl (by omega) (words_cells_d _)).mono ?_; rintro e w' ⟨rfl, rfl⟩))
              go_wp2_with fail
              go_meet
              case rel =>
                exact ⟨s.extract k e, by rw [HO.out]; exact HT3.out.below HB4.out, by rw [HO.out], HZ3.out.below HB4.out, HB3.out.trans (HB4.out.mono HB3.out.size)⟩
            · have HO : Hid (oneT (s.data.toList.drop k) = (2, (s.extract k e).data.toList)) := Lib.hid (by rw [oneT_letter hk hlet, HX.out, ← HX.out, ← memB_words, hm]; rfl)
              clear hlet
              go_region_held3 (fun w' => w'.cell? ⟨w.heap.size + 1, 1, none⟩ = some (.string (s.extract k e))) (go_keep) (first | (go_at_call 15; refine (rwords_any _).mono ?_; rintro e w' ⟨rfl, rfl⟩) | (go_at_call 51; refine (in_any _ 23 _ wordList _ _ rfl (by omega) (words_cells_d _)).mono ?_; rintro e w' ⟨rfl, rfl⟩))
              go_wp2_with fail
              go_meet
              case rel =>
                have hT5 := HT3.out.set0 2
                have hZ5 := HZ3.out.far hne 0 (.int .i64 2)
                have hB5 := HB3.out.setCell (p := ⟨w.heap.size + 1, 0, none⟩) (Nat.le_succ _) (.int .i64 2)
                have hb6 := ((Below.refl (w3.setCell ⟨w.heap.size + 1, 0, none⟩ (.int .i64 2)).heap.size (w3.setCell ⟨w.heap.size + 1, 0, none⟩ (.int .i64 2))).alloc (Nat.le_refl _) (.cells wordCells 9)).drew
                exact ⟨s.extract k e, by rw [HO.out]; exact hT5.below hb6, by rw [HO.out], hZ5.below hb6, hB5.trans (hb6.mono hB5.size)⟩
        case rest =>
          obtain ⟨tx, hTc, htx, hZc, hBc⟩ := hcut
          obtain rfl := eq_bytesOf htx
          obtain ⟨kd, hkd⟩ : ∃ x, (oneT (s.data.toList.drop k)).1 = x := ⟨_, rfl⟩
          obtain ⟨tl, htl⟩ : ∃ x, (oneT (s.data.toList.drop k)).2 = x := ⟨_, rfl⟩
          have hpost : ∀ e w', ROnePost s k w e w' ↔ (e = .returned (.tuple #[.agg #[.int .i64 kd, .string (bytesOf tl), .int .i64 k], .bool (rightB kd tl)]) ∧ Below w.heap.size w w') := by
            intro e w'; unfold ROnePost; rw [hkd, htl]
          have HPO := Lib.hid hpost
          have htsz : (bytesOf tl).size ≤ 1000000 := by
            have := one_size (s := s) (k := k) (tx := bytesOf tl) (by rw [list_bytesOf, htl]); omega
          rw [hkd, htl] at hTc
          have HTc := Lib.hid hTc
          have HZc := Lib.hid hZc
          have HBc := Lib.hid hBc
          obtain ⟨p0, p1, p2⟩ := hTc.cells
          have q0 := later_cell p0
          have q1 := later_cell p1
          have q2 := later_cell p2
          clear hTc hZc hBc htx hkd htl hpost p0 p1 p2
          go_wp2_with fail
          refine wp_region_later_tail 6 (by kernel_rfl) (by kernel_rfl) ?_
          simp only [List.take_succ_cons, List.take_zero, List.drop_succ_cons, List.drop_zero]
          repeat (go_big_quiet_step ((go_at_call 33; exact Calls.later_of (rright_any _ _ _ htsz))))
          refine wpQuiet_nil ?_
          intro w6 hb6
          have HZ6 := Lib.hid (HZc.out.below hb6)
          have HB6 := Lib.hid (HBc.out.trans (hb6.mono HBc.out.size))
          have z0 := HZ6.out.cells
          have z1 := HZ6.out.free
          rw [list_bytesOf]
          clear q0 q1 q2 hb6
          go_wp2
          have HE : Hid (TokAt (((w6.setCell ⟨w.heap.size, 0, none⟩ (.int .i64 kd)).setCell ⟨w.heap.size, 1, none⟩ (.string (bytesOf tl))).setCell ⟨w.heap.size, 2, none⟩ (.int .i64 (k : Int))) w.heap.size kd (bytesOf tl) k) := Lib.hid (((HZ6.out.set0 kd).set1 _).set2 k)
          have HG := Lib.hid (((HB6.out.setCell (p := ⟨w.heap.size, 0, none⟩) (Nat.le_refl _) (.int .i64 kd)).setCell (p := ⟨w.heap.size, 1, none⟩) (Nat.le_refl _) (.string (bytesOf tl))).setCell (p := ⟨w.heap.size, 2, none⟩) (Nat.le_refl _) (.int .i64 (k : Int)))
          generalize (((w6.setCell ⟨w.heap.size, 0, none⟩ (.int .i64 kd)).setCell ⟨w.heap.size, 1, none⟩ (.string (bytesOf tl))).setCell ⟨w.heap.size, 2, none⟩ (.int .i64 (k : Int))) = w9 at HE HG ⊢
          have q := HE.out.cells
          exact bodyPost_ret (v := .tuple #[.agg #[.int .i64 kd, .string (bytesOf tl), .int .i64 k], .bool (rightB kd tl)]) (by simp [results, Try.results38, go_sem, q.1, q.2.1, q.2.2]) rfl ((HPO.out _ _).2 ⟨rfl, HG.out⟩)
      · clear hmore
        go_upto_block 2 with (fail)
        have hne : ¬ w.heap.size = w.heap.size + 1 := by omega
        go_cut [] (fun w' => OneCut s k w w')
        case first =>
          refine wp_world (F := fun w' => TokAt w' (w.heap.size + 1) 0 ⟨#[]⟩ k ∧ TokAt w' w.heap.size 0 ⟨#[]⟩ 0 ∧ Below w.heap.size w w') ⟨heap_alloc_at (by simp), heap_alloc_lt (heap_alloc_at rfl), ((Below.refl _ _).alloc (Nat.le_refl _) _).alloc (by simp) _⟩ ?_
          rintro w2 ⟨hT2, hZ2, hB2⟩
          have HT2 := Lib.hid hT2
          have HZ2 := Lib.hid hZ2
          have HB2 := Lib.hid hB2
          have d20 := hT2.cells
          have d21 := hT2.free
          have d22 := lt_of_blk hT2
          clear hT2 hZ2 hB2
          cases hlet : letterB s[k]
          · cases hdig : digitB s[k]
            · have HS : Hid (oneT (s.data.toList.drop k) = (4, if memL signBytes ((s.data.toList.drop k).take 2) then (s.data.toList.drop k).take 2 else (s.data.toList.drop k).take 1)) := Lib.hid (oneT_sign hk hlet hdig)
              go_wp2_with (first | (go_at_call 58; refine (letter_any _ _).mono ?_; rintro e' w' ⟨rfl, rfl⟩) | (go_at_call 59; refine (digit_any _ _).mono ?_; rintro e' w' ⟨rfl, rfl⟩))
              have g1 : (0 : Int) ≤ (k : Int) + 1 := by omega
              have g2 : (k : Int) + 1 ≤ s.size := by omega
              have g3 : ((k : Int) + 1).toNat = k + 1 := by omega
              have g4 : IntKind.i64.wrap ((k : Int) + 1) = (k : Int) + 1 := IntWalk.i64_in _ (by omega)
              go_region
              go_wp2_with fail
              clear g1 g2 g3 g4
              refine wp_world (F := fun w' => TokAt w' (w.heap.size + 1) (4) (s.extract k (k + 1)) k ∧ TokAt w' w.heap.size 0 ⟨#[]⟩ 0 ∧ Below w.heap.size w w') ⟨(HT2.out.set0 4).set1 _, (HZ2.out.far hne _ _).far hne _ _, ((HB2.out.setCell (p := ⟨w.heap.size + 1, 0, none⟩) (Nat.le_succ _) _).setCell (p := ⟨w.heap.size + 1, 1, none⟩) (Nat.le_succ _) _).drew⟩ ?_
              rintro w3 ⟨hT3, hZ3, hB3⟩
              clear d20 d21 d22 HT2 HZ2 HB2
              have HT3 := Lib.hid hT3
              have HZ3 := Lib.hid hZ3
              have HB3 := Lib.hid hB3
              have d30 := hT3.cells
              have d31 := hT3.free
              have d32 := lt_of_blk hT3
              clear hT3 hZ3 hB3
              have d31' := d31.2.1
              by_cases h2 : k + 2 ≤ s.size
              · have g1 : decide ((k : Int) + 2 ≤ s.size) = true := by simp; omega
                have g5 : (0 : Int) ≤ (k : Int) + 2 := by omega
                have g6 : (k : Int) ≤ (k : Int) + 2 := by omega
                have g7 : (0 : Int) ≤ (k : Int) := by omega
                have g8 : ((k : Int)).toNat = k := by omega
                have g2 : (k : Int) + 2 ≤ s.size := by omega
                have g3 : ((k : Int) + 2).toNat = k + 2 := by omega
                have g4 : IntKind.i64.wrap ((k : Int) + 2) = (k : Int) + 2 := IntWalk.i64_in _ (by omega)
                have HB4 := Lib.hid (((Below.refl w3.heap.size w3).alloc (Nat.le_refl _) (.cells signCells 9)).drew)
                have HT5 := Lib.hid (HT3.out.set1 (s.extract k (k + 2)))
                have HZ5 := Lib.hid (HZ3.out.far hne 1 (.string (s.extract k (k + 2))))
                have HB5 := Lib.hid (HB3.out.setCell (p := ⟨w.heap.size + 1, 1, none⟩) (Nat.le_succ _) (.string (s.extract k (k + 2))))
                have HB6 := Lib.hid (((Below.refl (w3.setCell ⟨w.heap.size + 1, 1, none⟩ (.string (s.extract k (k + 2)))).heap.size (w3.setCell ⟨w.heap.size + 1, 1, none⟩ (.string (s.extract k (k + 2))))).alloc (Nat.le_refl _) (.cells signCells 9)).drew)
                cases hm : memB signList (s.extract k (k + 2))
                · have HO : Hid (oneT (s.data.toList.drop k) = (4, (s.extract k (k + 1)).data.toList)) := Lib.hid (by
                    rw [HS.out, ← extract_two', ← memB_signs, hm, extract_one]; rfl)
                  clear hlet hdig
                  go_region_held3 (fun _ => True) (trivial) (first | (go_at_call 17; refine (rsigns_any _).mono ?_; rintro e w' ⟨rfl, rfl⟩) | (go_at_call 51; refine (in_any _ 21 _ signList _ _ rfl (by omega) (signs_cells_d _)).mono ?_; rintro e w' ⟨rfl, rfl⟩))
                  all_goals clear g1 g2 g3 g4 g5 g6 g7 g8
                  all_goals go_wp2_with fail
                  all_goals go_meet
                  all_goals exact ⟨s.extract k (k + 1), by rw [HO.out]; exact HT3.out.below HB4.out, by rw [HO.out], HZ3.out.below HB4.out, HB3.out.trans (HB4.out.mono HB3.out.size)⟩
                · have HO : Hid (oneT (s.data.toList.drop k) = (4, (s.extract k (k + 2)).data.toList)) := Lib.hid (by
                    rw [HS.out, ← extract_two', ← memB_signs, hm]; rfl)
                  clear hlet hdig
                  go_region_held3 (fun _ => True) (trivial) (first | (go_at_call 17; refine (rsigns_any _).mono ?_; rintro e w' ⟨rfl, rfl⟩) | (go_at_call 51; refine (in_any _ 21 _ signList _ _ rfl (by omega) (signs_cells_d _)).mono ?_; rintro e w' ⟨rfl, rfl⟩))
                  all_goals go_wp2_with fail
                  all_goals go_meet
                  all_goals exact ⟨s.extract k (k + 2), by rw [HO.out]; exact HT5.out.below HB6.out, by rw [HO.out], HZ5.out.below HB6.out, HB5.out.trans (HB6.out.mono HB5.out.size)⟩
              · have g1 : decide ((k : Int) + 2 ≤ s.size) = false := by simp; omega
                have g4 : IntKind.i64.wrap ((k : Int) + 2) = (k : Int) + 2 := IntWalk.i64_in _ (by omega)
                have HO : Hid (oneT (s.data.toList.drop k) = (4, (s.extract k (k + 1)).data.toList)) := Lib.hid (by
                    rw [HS.out, two_one h2, ← extract_one]; simp)
                refine wp_region_later (by kernel_rfl) (by kernel_rfl) ?_
                repeat (go_big_quiet_step (fail))
                refine wpQuiet_nil ?_
                intro w4 hb4
                clear g1 g4
                go_wp2_with fail
                go_meet
                case rel => exact ⟨s.extract k (k + 1), by rw [HO.out]; exact HT3.out.below hb4, by rw [HO.out], HZ3.out.below hb4, HB3.out.trans (hb4.mono HB3.out.size)⟩
            · have HO : Hid (oneT (s.data.toList.drop k) = (3, (s.extract k e).data.toList)) := Lib.hid (by rw [oneT_digit hk hlet hdig, extract_list, ← HW.out])
              go_wp2_with (first | (go_at_call 58; refine (letter_any _ _).mono ?_; rintro e' w' ⟨rfl, rfl⟩) | (go_at_call 59; refine (digit_any _ _).mono ?_; rintro e' w' ⟨rfl, rfl⟩))
              go_region
              go_wp2_with fail
              go_meet
              case rel =>
                exact ⟨s.extract k e, by rw [HO.out]; exact (HT2.out.set0 3).set1 _, by rw [HO.out], (HZ2.out.far hne _ _).far hne _ _, ((HB2.out.setCell (p := ⟨w.heap.size + 1, 0, none⟩) (Nat.le_succ _) _).setCell (p := ⟨w.heap.size + 1, 1, none⟩) (Nat.le_succ _) _).drew⟩
          · go_wp2_with (go_at_call 58; refine (letter_any _ _).mono ?_; rintro e' w' ⟨rfl, rfl⟩)
            go_region
            go_wp2_with fail
            refine wp_world (F := fun w' => TokAt w' (w.heap.size + 1) (1) (s.extract k e) k ∧ TokAt w' w.heap.size 0 ⟨#[]⟩ 0 ∧ Below w.heap.size w w') ⟨(HT2.out.set0 1).set1 _, (HZ2.out.far hne _ _).far hne _ _, ((HB2.out.setCell (p := ⟨w.heap.size + 1, 0, none⟩) (Nat.le_succ _) _).setCell (p := ⟨w.heap.size + 1, 1, none⟩) (Nat.le_succ _) _).drew⟩ ?_
            rintro w3 ⟨hT3, hZ3, hB3⟩
            clear d20 d21 d22 HT2 HZ2 HB2
            have HT3 := Lib.hid hT3
            have HZ3 := Lib.hid hZ3
            have HB3 := Lib.hid hB3
            have d30 := hT3.cells
            have d31 := hT3.free
            have d32 := lt_of_blk hT3
            clear hT3 hZ3 hB3
            have HX : Hid ((s.extract k e).data.toList = (s.data.toList.drop k).takeWhile partB) := Lib.hid (by rw [HW.out, extract_list])
            have hb4 : Below w3.heap.size w3 (w3.alloc (.cells wordCells 9)).drew := ((Below.refl _ _).alloc (Nat.le_refl _) _).drew
            have HB4 := Lib.hid hb4
            clear hb4
            have d31' := d31.1
            cases hm : memB wordList (s.extract k e)
            · have HO : Hid (oneT (s.data.toList.drop k) = (1, (s.extract k e).data.toList)) := Lib.hid (by rw [oneT_letter hk hlet, HX.out, ← HX.out, ← memB_words, hm]; rfl)
              clear hlet
              go_region_held3 (fun w' => w'.cell? ⟨w.heap.size + 1, 1, none⟩ = some (.string (s.extract k e))) (go_keep) (first | (go_at_call 15; refine (rwords_any _).mono ?_; rintro e w' ⟨rfl, rfl⟩) | (go_at_call 51; refine (in_any _ 23 _ wordList _ _ rfl (by omega) (words_cells_d _)).mono ?_; rintro e w' ⟨rfl, rfl⟩))
              go_wp2_with fail
              go_meet
              case rel =>
                exact ⟨s.extract k e, by rw [HO.out]; exact HT3.out.below HB4.out, by rw [HO.out], HZ3.out.below HB4.out, HB3.out.trans (HB4.out.mono HB3.out.size)⟩
            · have HO : Hid (oneT (s.data.toList.drop k) = (2, (s.extract k e).data.toList)) := Lib.hid (by rw [oneT_letter hk hlet, HX.out, ← HX.out, ← memB_words, hm]; rfl)
              clear hlet
              go_region_held3 (fun w' => w'.cell? ⟨w.heap.size + 1, 1, none⟩ = some (.string (s.extract k e))) (go_keep) (first | (go_at_call 15; refine (rwords_any _).mono ?_; rintro e w' ⟨rfl, rfl⟩) | (go_at_call 51; refine (in_any _ 23 _ wordList _ _ rfl (by omega) (words_cells_d _)).mono ?_; rintro e w' ⟨rfl, rfl⟩))
              go_wp2_with fail
              go_meet
              case rel =>
                have hT5 := HT3.out.set0 2
                have hZ5 := HZ3.out.far hne 0 (.int .i64 2)
                have hB5 := HB3.out.setCell (p := ⟨w.heap.size + 1, 0, none⟩) (Nat.le_succ _) (.int .i64 2)
                have hb6 := ((Below.refl (w3.setCell ⟨w.heap.size + 1, 0, none⟩ (.int .i64 2)).heap.size (w3.setCell ⟨w.heap.size + 1, 0, none⟩ (.int .i64 2))).alloc (Nat.le_refl _) (.cells wordCells 9)).drew
                exact ⟨s.extract k e, by rw [HO.out]; exact hT5.below hb6, by rw [HO.out], hZ5.below hb6, hB5.trans (hb6.mono hB5.size)⟩
        case rest =>
          obtain ⟨tx, hTc, htx, hZc, hBc⟩ := hcut
          obtain rfl := eq_bytesOf htx
          obtain ⟨kd, hkd⟩ : ∃ x, (oneT (s.data.toList.drop k)).1 = x := ⟨_, rfl⟩
          obtain ⟨tl, htl⟩ : ∃ x, (oneT (s.data.toList.drop k)).2 = x := ⟨_, rfl⟩
          have hpost : ∀ e w', ROnePost s k w e w' ↔ (e = .returned (.tuple #[.agg #[.int .i64 kd, .string (bytesOf tl), .int .i64 k], .bool (rightB kd tl)]) ∧ Below w.heap.size w w') := by
            intro e w'; unfold ROnePost; rw [hkd, htl]
          have HPO := Lib.hid hpost
          have htsz : (bytesOf tl).size ≤ 1000000 := by
            have := one_size (s := s) (k := k) (tx := bytesOf tl) (by rw [list_bytesOf, htl]); omega
          rw [hkd, htl] at hTc
          have HTc := Lib.hid hTc
          have HZc := Lib.hid hZc
          have HBc := Lib.hid hBc
          obtain ⟨p0, p1, p2⟩ := hTc.cells
          have q0 := later_cell p0
          have q1 := later_cell p1
          have q2 := later_cell p2
          clear hTc hZc hBc htx hkd htl hpost p0 p1 p2
          go_wp2_with fail
          refine wp_region_later_tail 6 (by kernel_rfl) (by kernel_rfl) ?_
          simp only [List.take_succ_cons, List.take_zero, List.drop_succ_cons, List.drop_zero]
          repeat (go_big_quiet_step ((go_at_call 33; exact Calls.later_of (rright_any _ _ _ htsz))))
          refine wpQuiet_nil ?_
          intro w6 hb6
          have HZ6 := Lib.hid (HZc.out.below hb6)
          have HB6 := Lib.hid (HBc.out.trans (hb6.mono HBc.out.size))
          have z0 := HZ6.out.cells
          have z1 := HZ6.out.free
          rw [list_bytesOf]
          clear q0 q1 q2 hb6
          go_wp2
          have HE : Hid (TokAt (((w6.setCell ⟨w.heap.size, 0, none⟩ (.int .i64 kd)).setCell ⟨w.heap.size, 1, none⟩ (.string (bytesOf tl))).setCell ⟨w.heap.size, 2, none⟩ (.int .i64 (k : Int))) w.heap.size kd (bytesOf tl) k) := Lib.hid (((HZ6.out.set0 kd).set1 _).set2 k)
          have HG := Lib.hid (((HB6.out.setCell (p := ⟨w.heap.size, 0, none⟩) (Nat.le_refl _) (.int .i64 kd)).setCell (p := ⟨w.heap.size, 1, none⟩) (Nat.le_refl _) (.string (bytesOf tl))).setCell (p := ⟨w.heap.size, 2, none⟩) (Nat.le_refl _) (.int .i64 (k : Int)))
          generalize (((w6.setCell ⟨w.heap.size, 0, none⟩ (.int .i64 kd)).setCell ⟨w.heap.size, 1, none⟩ (.string (bytesOf tl))).setCell ⟨w.heap.size, 2, none⟩ (.int .i64 (k : Int))) = w9 at HE HG ⊢
          have q := HE.out.cells
          exact bodyPost_ret (v := .tuple #[.agg #[.int .i64 kd, .string (bytesOf tl), .int .i64 k], .bool (rightB kd tl)]) (by simp [results, Try.results38, go_sem, q.1, q.2.1, q.2.2]) rfl ((HPO.out _ _).2 ⟨rfl, HG.out⟩)
end Go.Proofs.Ytigppjgmfonodaa
