/- number of the program; Name and Number of the reference: what each call computes. -/
import Derived.Test.YtigppjgmfonodaaLexC
namespace Go.Proofs.Ytigppjgmfonodaa
open Go.RowKit

set_option maxHeartbeats 1000000 in
theorem number_any (s : ByteArray) (w : World) (hs : s.size ≤ 1000000) :
    Calls Try.prog 49 #[.string s] w fun e w' => e = .returned (.bool (numberB s.data.toList)) ∧ Below w.heap.size w w' := by
  have i1 : ∀ w, (Instr.index 94 (.agg kindCells) (.int .i64 1)).run Try.prog w = .ok (.func (.func 67) #[.agg #[.int .u8 48, .int .u8 57]] #[]) w := fun _ => by kernel_rfl
  go_enter Try.func49, Try.ntmps49
  go_wp2_with (go_at_call 54; refine (kinds_any _).mono ?_; rintro e w' ⟨rfl, rfl⟩)
  clear i1
  go_loopw [4, 9] (fun _ i wr => ∃ k : Nat, k ≤ s.size ∧ i = .int .i64 k ∧ (s.data.toList.take k).all digitB = true ∧ Below w.heap.size w wr) (fun _ i _ => s.size - (intOf i).toNat)
  case atStart =>
    exact ⟨0, by omega, rfl, by simp, (Below.refl _ _).alloc (Nat.le_refl _) _⟩
  case round =>
    obtain ⟨k, hk, rfl, hm, hB⟩ := hrel
    have hBs := hB.size
    have HM := Lib.hid hm
    clear hm
    by_cases hlt : k < s.size
    · have hl : k < s.data.toList.length := by simpa using hlt
      have hcase2 : (48 ≤ (s[k].toNat : Int) ∧ (s[k].toNat : Int) ≤ 57) ∨ ((s[k].toNat : Int) < 48 ∨ 57 < (s[k].toNat : Int)) := by omega
      rcases hcase2 with hc | hc
      case inl =>
        have HP : Hid (digitB s[k] = true) := Lib.hid (digitB_of hc)
        go_wp2_with (go_at_call 67; refine (has_yes _ _ _ _ (by omega)).mono ?_; rintro e w1 ⟨rfl, hb1⟩)
        go_roundw
        case rel => exact ⟨k + 1, by omega, by go_num, wb_step hl HM.out HP.out, hB.trans (hb1.mono hBs)⟩
        case measure => simp [intOf]; omega
      case inr =>
        have HF : Hid (numberB s.data.toList = false) := Lib.hid (by simp [numberB, all_false_at hl (digitB_not hc)])
        go_wp2_with (go_at_call 67; refine (has_no _ _ _ _ (by omega)).mono ?_; rintro e w1 ⟨rfl, hb1⟩)
        go_ret
        exact ⟨ret_bool HF.out.symm, hB.trans (hb1.mono hBs)⟩
    · have HA : Hid (s.data.toList.all digitB = true) := Lib.hid (take_all (by simp; omega) HM.out)
      by_cases h0 : s.toList = [48]
      · have HF : Hid (numberB s.data.toList = true) := Lib.hid (by rw [numberB, HA.out, ← toList_data, h0]; rfl)
        go_wp2
        go_ret
        exact ⟨ret_bool HF.out.symm, hB⟩
      · have HN : Hid ((s.data.toList == [48]) = false) := Lib.hid (by rw [← toList_data]; simpa using h0)
        have h0' : (s.toList == [48]) = false := by simpa using h0
        clear h0
        by_cases hz0 : s.size = 0
        · have hz : s.toList = [] := toList_of_size_zero hz0
          have HF : Hid (numberB s.data.toList = false) := Lib.hid (by rw [numberB, HN.out, ← toList_data, hz]; rfl)
          go_wp2
          go_ret
          exact ⟨ret_bool HF.out.symm, hB⟩
        · have hz : s.toList.isEmpty = false := toList_of_size_pos (by omega)
          have hp : 0 < s.size := by omega
          have HF : Hid (numberB s.data.toList = ((!(s[0] == 48)) && decide (s.size ≤ 4))) := Lib.hid (by
            rw [numberB, HA.out, HN.out, head_of hp, ← toList_data, hz]
            simp [toList_data, bne])
          clear hz0
          by_cases h48 : s[0] = 48
          · have h1 : ((s[0].toNat : Int) != 48) = false := by rw [h48]; rfl
            have HG : Hid (numberB s.data.toList = false) := Lib.hid (by rw [HF.out, h48]; rfl)
            clear h48
            go_wp2
            go_ret
            exact ⟨ret_bool HG.out.symm, hB⟩
          · have h1 : ((s[0].toNat : Int) != 48) = true := by
              rw [bne_iff_ne]; intro h; apply h48; exact UInt8.toNat_inj.1 (by simpa using Int.ofNat.inj h)
            have HG : Hid (numberB s.data.toList = decide (s.size ≤ 4)) := Lib.hid (by rw [HF.out, beq_eq_false_iff_ne.2 h48]; rfl)
            clear h48
            go_wp2
            go_ret
            exact ⟨ret_bool (by rw [HG.out, Bool.eq_iff_iff]; simp; omega), hB⟩
end Go.Proofs.Ytigppjgmfonodaa
