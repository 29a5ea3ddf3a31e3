/- Contains, and the small functions of the reference: what each call computes. -/
import Derived.Test.YtigppjgmfonodaaLexB
namespace Go.Proofs.Ytigppjgmfonodaa
open Go.RowKit

theorem contains_any (b n c : Nat) (zs : List ByteArray) (x : ByteArray) (w : World) (hz : zs.length = n) (hbig : n ≤ 1000000)
    (hc : ∀ j, j < n → w.cell? ⟨b, j, none⟩ = some (.string (zs.getD j ByteArray.empty))) :
    Calls Try.prog 48 #[.slice (some ⟨b, 0, none⟩) n c, .string x] w fun e w' => e = .returned (.bool (memB zs x)) ∧ w = w' := by
  have hi := index_any b n c zs x w hz hbig hc
  have HI := Lib.hid hi
  have HZ := Lib.hid hz
  clear hi hc hz
  go_enter Try.func48, Try.ntmps48
  go_wp2_with fail
  refine HI.out.mono ?_
  rintro e w' ⟨⟨i, rfl, hi⟩, rfl⟩
  have HH := Lib.hid hi
  clear hi
  go_wp2
  go_ret
  exact ⟨ret_bool HH.out, rfl⟩

theorem letter_any (c : UInt8) (w : World) : Calls Try.prog 58 #[.int .u8 (c.toNat : Int)] w fun e w' => e = .returned (.bool (letterB c)) ∧ w = w' := by
  by_cases h1 : 97 ≤ (c.toNat : Int)
  · go_enter Try.func58, Try.ntmps58
    go_wp2
    go_ret
    exact ⟨ret_bool (by simp [letterB, h1]), rfl⟩
  · go_enter Try.func58, Try.ntmps58
    go_wp2
    go_ret
    exact ⟨ret_bool (by rw [letterB_not (by omega)]), rfl⟩

theorem digit_any (c : UInt8) (w : World) : Calls Try.prog 59 #[.int .u8 (c.toNat : Int)] w fun e w' => e = .returned (.bool (digitB c)) ∧ w = w' := by
  by_cases h1 : 48 ≤ (c.toNat : Int)
  · go_enter Try.func59, Try.ntmps59
    go_wp2
    go_ret
    exact ⟨ret_bool (by simp [digitB, h1]), rfl⟩
  · go_enter Try.func59, Try.ntmps59
    go_wp2
    go_ret
    exact ⟨ret_bool (by rw [digitB_not (by omega)]), rfl⟩

theorem part_any (c : UInt8) (w : World) : Calls Try.prog 57 #[.int .u8 (c.toNat : Int)] w fun e w' => e = .returned (.bool (partB c)) ∧ w = w' := by
  have HP : Hid (partB c = (letterB c || digitB c || underB c)) := Lib.hid rfl
  have HU : Hid (underB c = ((c.toNat : Int) == 95)) := Lib.hid (by rw [Bool.eq_iff_iff]; simp [underB]; omega)
  cases h1 : letterB c <;> cases h2 : digitB c
  all_goals
    go_enter Try.func57, Try.ntmps57
    go_wp2_with (first | (go_at_call 58; refine (letter_any _ _).mono ?_; rintro e w' ⟨rfl, rfl⟩) | (go_at_call 59; refine (digit_any _ _).mono ?_; rintro e w' ⟨rfl, rfl⟩))
    go_ret
    exact ⟨ret_bool (by rw [HP.out, HU.out, h1, h2]; simp), rfl⟩

theorem in_any (b n c : Nat) (zs : List ByteArray) (x : ByteArray) (w : World) (hz : zs.length = n) (hbig : n ≤ 1000000)
    (hc : ∀ j, j < n → w.cell? ⟨b, j, none⟩ = some (.string (zs.getD j ByteArray.empty))) :
    Calls Try.prog 51 #[.slice (some ⟨b, 0, none⟩) n c, .string x] w fun e w' => e = .returned (.bool (memB zs x)) ∧ w = w' := by
  have HZ := Lib.hid hz
  have hz' : n ≤ zs.length := by omega
  clear hz
  go_enter Try.func51, Try.ntmps51
  go_wp2
  go_loop [5] (fun i => ∃ k : Nat, k ≤ n ∧ i = .int .i64 k ∧ memB (zs.take k) x = false) (fun i => n - (intOf i).toNat)
  case atStart => exact ⟨0, Nat.zero_le _, rfl, by simp [memB]⟩
  case round =>
    obtain ⟨k, hk, rfl, hm⟩ := hrel
    have hcell : k < n → w.cell? ⟨b, k, none⟩ = some (.string (zs.getD k ByteArray.empty)) := fun h => hc k h
    have HM := Lib.hid hm
    clear hm hc
    go_wp2
    · rename_i hlt _ _ heq _
      go_ret
      exact ⟨ret_bool (memB_hit zs x k (by omega) (by simpa using (beq_iff_eq.1 heq).symm)).symm, rfl⟩
    · rename_i hlt hne
      refine ⟨⟨k + 1, by omega, by simp, ?_⟩, by simp [intOf]; omega⟩
      exact memB_miss zs x k (by omega) HM.out (fun h => absurd h.symm (by simpa using hne))
    · rename_i hge _
      go_ret
      refine ⟨ret_bool ?_, rfl⟩
      have hk : k = zs.length := by have := HZ.out; omega
      have h := HM.out
      rw [hk, List.take_length] at h
      exact h.symm
end Go.Proofs.Ytigppjgmfonodaa
