/- word and number: what each call computes. -/
import Derived.Test.YtigppjgmfonodaaLexA
namespace Go.Proofs.Ytigppjgmfonodaa
open Go.RowKit

theorem kinds_at (w : World) : KindsAt ((w.alloc (.cells kindCells 94)).alloc (.cells kindCells 94)) (w.heap.size + 1) :=
  ⟨(World.cell?_alloc_at (hn := by simp) ..).trans rfl, (World.cell?_alloc_at (hn := by simp) ..).trans rfl, (World.cell?_alloc_at (hn := by simp) ..).trans rfl⟩

set_option maxHeartbeats 1000000 in
theorem word_any (s : ByteArray) (w : World) (hs : s.size ≤ 1000000) :
    Calls Try.prog 47 #[.string s] w fun e w' => e = .returned (.bool (wordB s.data.toList)) ∧ Below w.heap.size w w' := by
  have hks := kinds_at w
  go_enter Try.func47, Try.ntmps47
  go_wp2_with (go_at_call 54; refine (kinds_any _).mono ?_; rintro e w' ⟨rfl, rfl⟩; unfold kindCells)
  go_loopw [4, 8] (fun _ i wr => ∃ k : Nat, k ≤ s.size ∧ i = .int .i64 k ∧ (s.data.toList.take k).all partB = true ∧ KindsAt wr (w.heap.size + 1) ∧ Below w.heap.size w wr) (fun _ i _ => s.size - (intOf i).toNat)
  case atStart =>
    exact ⟨0, by omega, rfl, by simp, hks, ((Below.refl _ _).alloc (Nat.le_refl _) _).alloc (by simp) _⟩
  case round =>
    obtain ⟨k, hk, rfl, hm, hK, hB⟩ := hrel
    clear hks
    obtain ⟨hK0, hK1, hK2⟩ := hK
    have k0 := later_cell hK0
    have k1 := later_cell hK1
    have k2 := later_cell hK2
    have hBs := hB.size
    have HM := Lib.hid hm
    clear hm
    by_cases hlt : k < s.size
    · have hl : k < s.data.toList.length := by simpa using hlt
      have hcase : (97 ≤ (s[k].toNat : Int) ∧ (s[k].toNat : Int) ≤ 122) ∨ ((s[k].toNat : Int) < 97 ∨ 122 < (s[k].toNat : Int)) := by omega
      have hcase2 : (48 ≤ (s[k].toNat : Int) ∧ (s[k].toNat : Int) ≤ 57) ∨ ((s[k].toNat : Int) < 48 ∨ 57 < (s[k].toNat : Int)) := by omega
      have hcase3 : (95 ≤ (s[k].toNat : Int) ∧ (s[k].toNat : Int) ≤ 95) ∨ ((s[k].toNat : Int) < 95 ∨ 95 < (s[k].toNat : Int)) := by omega
      have HP : Hid ((97 ≤ (s[k].toNat : Int) ∧ (s[k].toNat : Int) ≤ 122) ∨ (48 ≤ (s[k].toNat : Int) ∧ (s[k].toNat : Int) ≤ 57) ∨ (95 ≤ (s[k].toNat : Int) ∧ (s[k].toNat : Int) ≤ 95) → partB s[k] = true) := by
        rintro (h | h | h)
        · simp [partB, letterB_of h]
        · simp [partB, digitB_of h]
        · simp [partB, underB_of h]
      have HN : Hid (((s[k].toNat : Int) < 97 ∨ 122 < (s[k].toNat : Int)) → ((s[k].toNat : Int) < 48 ∨ 57 < (s[k].toNat : Int)) → ((s[k].toNat : Int) < 95 ∨ 95 < (s[k].toNat : Int)) → partB s[k] = false) := by
        intro h1 h2 h3
        simp [partB, letterB_not h1, digitB_not h2, underB_not h3]
      rcases hcase with hc | hc
      case inl =>
        clear hcase2 hcase3
        go_wp2_with fail
        refine wp_region_later (by kernel_rfl) (by kernel_rfl) ?_
        repeat (go_big_quiet_step ((go_at_call 67; first | exact Calls.later_of (has_yes _ _ _ _ (by omega)) | exact Calls.later_of (has_no _ _ _ _ (by omega)))))
        refine wpQuiet_nil ?_
        intro w1 hb1
        go_wp2
        go_roundw
        case rel => exact ⟨k + 1, by omega, by go_num, wb_step hl HM.out (HP.out (by omega)), ⟨below_cell hb1 hK0, below_cell hb1 hK1, below_cell hb1 hK2⟩, hB.trans (hb1.mono hBs)⟩
        case measure => simp [intOf]; omega
      case inr =>
        rcases hcase2 with hd | hd
        case inl =>
          clear hcase3
          go_wp2_with fail
          refine wp_region_later (by kernel_rfl) (by kernel_rfl) ?_
          repeat (go_big_quiet_step ((go_at_call 67; first | exact Calls.later_of (has_yes _ _ _ _ (by omega)) | exact Calls.later_of (has_no _ _ _ _ (by omega)))))
          refine wpQuiet_nil ?_
          intro w1 hb1
          go_wp2
          go_roundw
          case rel => exact ⟨k + 1, by omega, by go_num, wb_step hl HM.out (HP.out (by omega)), ⟨below_cell hb1 hK0, below_cell hb1 hK1, below_cell hb1 hK2⟩, hB.trans (hb1.mono hBs)⟩
          case measure => simp [intOf]; omega
        case inr =>
          rcases hcase3 with hu | hu
          case inl =>
            go_wp2_with fail
            refine wp_region_later (by kernel_rfl) (by kernel_rfl) ?_
            repeat (go_big_quiet_step ((go_at_call 67; first | exact Calls.later_of (has_yes _ _ _ _ (by omega)) | exact Calls.later_of (has_no _ _ _ _ (by omega)))))
            refine wpQuiet_nil ?_
            intro w1 hb1
            go_wp2
            go_roundw
            case rel => exact ⟨k + 1, by omega, by go_num, wb_step hl HM.out (HP.out (by omega)), ⟨below_cell hb1 hK0, below_cell hb1 hK1, below_cell hb1 hK2⟩, hB.trans (hb1.mono hBs)⟩
            case measure => simp [intOf]; omega
          case inr =>
            have HF : Hid (wordB s.data.toList = false) := Lib.hid (by simp [wordB, all_false_at hl (HN.out hc hd hu)])
            go_wp2_with fail
            refine wp_region_later (by kernel_rfl) (by kernel_rfl) ?_
            repeat (go_big_quiet_step ((go_at_call 67; first | exact Calls.later_of (has_yes _ _ _ _ (by omega)) | exact Calls.later_of (has_no _ _ _ _ (by omega)))))
            refine wpQuiet_nil ?_
            intro w1 hb1
            go_wp2
            go_ret
            exact ⟨ret_bool HF.out.symm, hB.trans (hb1.mono hBs)⟩
    · have HA : Hid (s.data.toList.all partB = true) := Lib.hid (take_all (by simp; omega) HM.out)
      by_cases h0 : s.size = 0
      · have hz : s.toList = [] := toList_of_size_zero h0
        have HF : Hid (wordB s.data.toList = false) := Lib.hid (by simp [wordB, ← toList_data, hz])
        go_wp2_with fail
        refine wp_region_later (by kernel_rfl) (by kernel_rfl) ?_
        repeat (go_big_quiet_step (fail))
        refine wpQuiet_nil ?_
        intro w1 hb1
        go_wp2
        go_ret
        exact ⟨ret_bool HF.out.symm, hB.trans (hb1.mono hBs)⟩
      · have hz : s.toList.isEmpty = false := toList_of_size_pos (by omega)
        have hp : 0 < s.size := by omega
        have hcase : (97 ≤ (s[0].toNat : Int) ∧ (s[0].toNat : Int) ≤ 122) ∨ ((s[0].toNat : Int) < 97 ∨ 122 < (s[0].toNat : Int)) := by omega
        have HH : Hid (wordB s.data.toList = letterB s[0]) := Lib.hid (by rw [wordB, HA.out, head_of hp]; simp)
        rcases hcase with hc | hc
        case inl =>
          have HF : Hid (wordB s.data.toList = true) := Lib.hid (HH.out.trans (letterB_of hc))
          go_wp2_with fail
          refine wp_region_later (by kernel_rfl) (by kernel_rfl) ?_
          repeat (go_big_quiet_step ((go_at_call 67; first | exact Calls.later_of (has_yes _ _ _ _ (by omega)) | exact Calls.later_of (has_no _ _ _ _ (by omega)))))
          refine wpQuiet_nil ?_
          intro w1 hb1
          go_wp2
          go_ret
          exact ⟨ret_bool HF.out.symm, hB.trans (hb1.mono hBs)⟩
        case inr =>
          have HF : Hid (wordB s.data.toList = false) := Lib.hid (HH.out.trans (letterB_not hc))
          go_wp2_with fail
          refine wp_region_later (by kernel_rfl) (by kernel_rfl) ?_
          repeat (go_big_quiet_step ((go_at_call 67; first | exact Calls.later_of (has_yes _ _ _ _ (by omega)) | exact Calls.later_of (has_no _ _ _ _ (by omega)))))
          refine wpQuiet_nil ?_
          intro w1 hb1
          go_wp2
          go_ret
          exact ⟨ret_bool HF.out.symm, hB.trans (hb1.mono hBs)⟩
end Go.Proofs.Ytigppjgmfonodaa
