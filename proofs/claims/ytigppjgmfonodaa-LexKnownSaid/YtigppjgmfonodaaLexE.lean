/- Name and Number of the reference: what each call computes. -/
import Derived.Test.YtigppjgmfonodaaLexC
namespace Go.Proofs.Ytigppjgmfonodaa
open Go.RowKit

theorem rwords_any (w : World) :
    Calls Try.prog 15 #[] w fun e w' => e = .returned (.slice (some ⟨w.heap.size, 0, none⟩) 23 23) ∧ w.alloc (.cells wordCells 9) = w' := by
  go_enter Try.func15, Try.ntmps15
  go_wp2
  go_ret
  exact ⟨rfl, rfl⟩

theorem rsigns_any (w : World) :
    Calls Try.prog 17 #[] w fun e w' => e = .returned (.slice (some ⟨w.heap.size, 0, none⟩) 21 21) ∧ w.alloc (.cells signCells 9) = w' := by
  go_enter Try.func17, Try.ntmps17
  go_wp2
  go_ret
  exact ⟨rfl, rfl⟩

theorem words_cells (w : World) (j : Nat) (h : j < 23) : (w.alloc (.cells wordCells 9)).cell? ⟨w.heap.size, j, none⟩ = some (.string (wordList.getD j ByteArray.empty)) :=
  (World.cell?_alloc_new _ _ _ _).trans (wordCells_at j h)
theorem signs_cells (w : World) (j : Nat) (h : j < 21) : (w.alloc (.cells signCells 9)).cell? ⟨w.heap.size, j, none⟩ = some (.string (signList.getD j ByteArray.empty)) :=
  (World.cell?_alloc_new _ _ _ _).trans (signCells_at j h)

theorem name_parts (l : List UInt8) : nameB l = (l.all partB && (l.head?.map letterB).getD false && decide (l.length ≤ 12) && !memL wordBytes l) := rfl

set_option maxHeartbeats 1000000 in
theorem rname_any (s : ByteArray) (w : World) (hs : s.size ≤ 1000000) :
    Calls Try.prog 50 #[.string s] w fun e w' => e = .returned (.bool (nameB s.data.toList)) ∧ Below w.heap.size w w' := by
  have hlen : s.data.toList.length = s.size := by simp
  have HL := Lib.hid hlen
  clear hlen
  by_cases h1 : s.size < 1
  · have HF : Hid (nameB s.data.toList = false) := Lib.hid (by
      have hz : s.toList = [] := toList_of_size_zero (by omega)
      rw [name_parts, ← toList_data, hz]; rfl)
    go_enter Try.func50, Try.ntmps50
    go_wp2
    go_ret
    exact ⟨ret_bool HF.out.symm, Below.refl _ _⟩
  · have hp : 0 < s.size := by omega
    have HH := Lib.hid (head_of hp)
    by_cases h2 : 12 < s.size
    · have HF : Hid (nameB s.data.toList = false) := Lib.hid (by
        rw [name_parts, decide_eq_false (by rw [HL.out]; omega)]; simp)
      go_enter Try.func50, Try.ntmps50
      go_wp2
      go_ret
      exact ⟨ret_bool HF.out.symm, Below.refl _ _⟩
    · cases h3 : letterB s[0]
      · have HF : Hid (nameB s.data.toList = false) := Lib.hid (by
          rw [name_parts, HH.out]; simp [h3])
        go_enter Try.func50, Try.ntmps50
        go_wp2_with (go_at_call 58; refine (letter_any _ _).mono ?_; rintro e w' ⟨rfl, rfl⟩)
        go_ret
        exact ⟨ret_bool HF.out.symm, Below.refl _ _⟩
      · cases h4 : memB wordList s
        · have HG : Hid (nameB s.data.toList = s.data.toList.all partB) := Lib.hid (by
            rw [name_parts, HH.out, ← memB_words, h4]; simp [h3]; intro _; omega)
          go_enter Try.func50, Try.ntmps50
          go_wp2_with (first | (go_at_call 58; refine (letter_any _ _).mono ?_; rintro e w' ⟨rfl, rfl⟩) | (go_at_call 15; refine (rwords_any _).mono ?_; rintro e w' ⟨rfl, rfl⟩) | (go_at_call 51; refine (in_any _ 23 _ wordList _ _ rfl (by omega) (words_cells _)).mono ?_; rintro e w' ⟨rfl, rfl⟩))
          go_loop [3] (fun i => ∃ k : Nat, k ≤ s.size ∧ i = .int .i64 k ∧ (s.data.toList.take k).all partB = true) (fun i => s.size - (intOf i).toNat)
          case atStart => exact ⟨0, by omega, rfl, by simp⟩
          case round =>
            obtain ⟨k, hk, rfl, hm⟩ := hrel
            have HM := Lib.hid hm
            clear hm h3 h4
            by_cases hlt : k < s.size
            · have hl : k < s.data.toList.length := by simpa using hlt
              cases h5 : partB s[k]
              · have HF : Hid (s.data.toList.all partB = false) := Lib.hid (all_false_at hl h5)
                go_wp2_with (go_at_call 57; refine (part_any _ _).mono ?_; rintro e w' ⟨rfl, rfl⟩)
                go_ret
                exact ⟨ret_bool (by rw [HG.out, HF.out]), (Below.refl _ _).alloc (Nat.le_refl _) _⟩
              · have HP : Hid (partB s.data.toList[k] = true) := Lib.hid h5
                go_wp2_with (go_at_call 57; refine (part_any _ _).mono ?_; rintro e w' ⟨rfl, rfl⟩)
                go_round
                case rel => exact ⟨k + 1, by omega, by go_num, wb_step hl HM.out HP.out⟩
                case measure => simp [intOf]; omega
            · have HA : Hid (s.data.toList.all partB = true) := Lib.hid (take_all (by simp; omega) HM.out)
              go_wp2
              go_ret
              exact ⟨ret_bool (by rw [HG.out, HA.out]), (Below.refl _ _).alloc (Nat.le_refl _) _⟩
        · have HF : Hid (nameB s.data.toList = false) := Lib.hid (by
            rw [name_parts, ← memB_words, h4]; simp)
          go_enter Try.func50, Try.ntmps50
          go_wp2_with (first | (go_at_call 58; refine (letter_any _ _).mono ?_; rintro e w' ⟨rfl, rfl⟩) | (go_at_call 15; refine (rwords_any _).mono ?_; rintro e w' ⟨rfl, rfl⟩) | (go_at_call 51; refine (in_any _ 23 _ wordList _ _ rfl (by omega) (words_cells _)).mono ?_; rintro e w' ⟨rfl, rfl⟩))
          go_ret
          exact ⟨ret_bool HF.out.symm, (Below.refl _ _).alloc (Nat.le_refl _) _⟩

theorem number_parts (l : List UInt8) : numberB l = (l.all digitB && (l == [48] || (!l.isEmpty && l.head? != some 48 && decide (l.length ≤ 4)))) := rfl

set_option maxHeartbeats 1000000 in
theorem rnumber_any (s : ByteArray) (w : World) (hs : s.size ≤ 1000000) :
    Calls Try.prog 52 #[.string s] w fun e w' => e = .returned (.bool (numberB s.data.toList)) ∧ w = w' := by
  have hlen : s.data.toList.length = s.size := by simp
  have HL := Lib.hid hlen
  clear hlen
  by_cases h1 : s.size < 1
  · have HF : Hid (numberB s.data.toList = false) := Lib.hid (by
      have hz : s.toList = [] := toList_of_size_zero (by omega)
      rw [number_parts, ← toList_data, hz]; rfl)
    go_enter Try.func52, Try.ntmps52
    go_wp2
    go_ret
    exact ⟨ret_bool HF.out.symm, rfl⟩
  · have hp : 0 < s.size := by omega
    have HH := Lib.hid (head_of hp)
    have HE : Hid (s.data.toList.isEmpty = false) := Lib.hid (by rw [← toList_data]; exact toList_of_size_pos hp)
    by_cases h2 : 4 < s.size
    · have HF : Hid (numberB s.data.toList = false) := Lib.hid (by
        have h48 : (s.data.toList == [48]) = false := by
          rw [beq_eq_false_iff_ne]; intro h
          have := HL.out
          rw [h] at this; simp at this; omega
        rw [number_parts, decide_eq_false (by rw [HL.out]; omega), h48]; simp)
      go_enter Try.func52, Try.ntmps52
      go_wp2
      go_ret
      exact ⟨ret_bool HF.out.symm, rfl⟩
    · by_cases h3 : 1 < s.size ∧ s[0] = 48
      · obtain ⟨h3, h4⟩ := h3
        have h5 : ((s[0].toNat : Int) == 48) = true := by rw [h4]; rfl
        have HF : Hid (numberB s.data.toList = false) := Lib.hid (by
          have h48 : (s.data.toList == [48]) = false := by
            rw [beq_eq_false_iff_ne]; intro h
            have := HL.out
            rw [h] at this; simp at this; omega
          rw [number_parts, HH.out, h4, h48]; simp)
        clear h4
        go_enter Try.func52, Try.ntmps52
        go_wp2
        go_ret
        exact ⟨ret_bool HF.out.symm, rfl⟩
      · have HG : Hid (numberB s.data.toList = s.data.toList.all digitB) := Lib.hid (by
          have : (s.data.toList == [48] || (!s.data.toList.isEmpty && s.data.toList.head? != some 48 && decide (s.data.toList.length ≤ 4))) = true := by
            rw [HE.out, HH.out, HL.out, decide_eq_true (by omega : s.size ≤ 4)]
            by_cases h4 : s[0] = 48
            · have h6 : s.size = 1 := by
                rcases Nat.lt_or_ge 1 s.size with h | h
                · exact absurd ⟨h, h4⟩ h3
                · omega
              have h7 : s.data.toList = [48] := by
                have hh := HH.out
                rw [h4] at hh
                cases e : s.data.toList with
                | nil => rw [e] at hh; simp at hh
                | cons a t =>
                  rw [e] at hh
                  have hl := HL.out
                  rw [e, h6] at hl
                  simp at hh hl
                  rw [hh, hl]
              rw [h7]; rfl
            · simp [h4]
          rw [number_parts, this]; simp)
        by_cases h6 : 1 < s.size
        case' pos =>
          have h7 : ((s[0].toNat : Int) == 48) = false := by
            rw [beq_eq_false_iff_ne]; intro h; exact h3 ⟨h6, UInt8.toNat_inj.1 (by simpa using Int.ofNat.inj h)⟩
        all_goals
          clear h3
          go_enter Try.func52, Try.ntmps52
          go_wp2
          go_loop [3] (fun i => ∃ k : Nat, k ≤ s.size ∧ i = .int .i64 k ∧ (s.data.toList.take k).all digitB = true) (fun i => s.size - (intOf i).toNat)
          case atStart => exact ⟨0, by omega, rfl, by simp⟩
          case round =>
            obtain ⟨k, hk, rfl, hm⟩ := hrel
            have HM := Lib.hid hm
            clear hm
            by_cases hlt : k < s.size
            · have hl : k < s.data.toList.length := by simpa using hlt
              cases h5 : digitB s[k]
              · have HF : Hid (s.data.toList.all digitB = false) := Lib.hid (all_false_at hl h5)
                go_wp2_with (go_at_call 59; refine (digit_any _ _).mono ?_; rintro e w' ⟨rfl, rfl⟩)
                go_ret
                exact ⟨ret_bool (by rw [HG.out, HF.out]), rfl⟩
              · have HP : Hid (digitB s.data.toList[k] = true) := Lib.hid h5
                go_wp2_with (go_at_call 59; refine (digit_any _ _).mono ?_; rintro e w' ⟨rfl, rfl⟩)
                go_round
                case rel => exact ⟨k + 1, by omega, by go_num, wb_step hl HM.out HP.out⟩
                case measure => simp [intOf]; omega
            · have HA : Hid (s.data.toList.all digitB = true) := Lib.hid (take_all (by simp; omega) HM.out)
              go_wp2
              go_ret
              exact ⟨ret_bool (by rw [HG.out, HA.out]), rfl⟩
end Go.Proofs.Ytigppjgmfonodaa
