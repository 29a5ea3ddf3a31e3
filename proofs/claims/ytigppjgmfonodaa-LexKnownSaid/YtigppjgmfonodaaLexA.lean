/- The small functions of lex: kinds of characters, words, numbers, Check: what each call computes. -/
import Derived.Test.YtigppjgmfonodaaRows
import Derived.Test.YtigppjgmfonodaaLexM
import Derived.Test.YtigppjgmfonodaaBase
import Derived.WalkKit
import Derived.WalkSpells
import Derived.WalkLawsBesides
import Derived.Laws.EntriesVeiled
import Derived.BigQuiet
import Derived.Deep.RegionHeld3
import Derived.Deep.QuietTactic
import Derived.Lib.Hide
namespace Go.Proofs.Ytigppjgmfonodaa
open Go.RowKit

set_option maxHeartbeats 400000 in
theorem has_any (lo hi b : Int) (w : World) :
    Calls Try.prog 67 #[.agg #[.int .u8 lo, .int .u8 hi], .int .u8 b] w fun e w' => e = .returned (.bool (decide (lo ≤ b) && decide (b ≤ hi))) ∧ w.alloc (.cells #[.int .u8 lo, .int .u8 hi] 106) = w' := by
  by_cases h1 : lo ≤ b
  · go_enter Try.func67, Try.ntmps67
    go_wp2
    go_ret
    exact ⟨by simp [h1], rfl⟩
  · go_enter Try.func67, Try.ntmps67
    go_wp2
    go_ret
    exact ⟨by simp; omega, rfl⟩

theorem words_any (w : World) :
    Calls Try.prog 14 #[] w fun e w' => e = .returned (.slice (some ⟨w.heap.size, 0, none⟩) 23 23) ∧ w.alloc (.cells wordCells 9) = w' := by
  go_enter Try.func14, Try.ntmps14
  go_wp2
  go_ret
  exact ⟨rfl, rfl⟩

theorem signs_any (w : World) :
    Calls Try.prog 16 #[] w fun e w' => e = .returned (.slice (some ⟨w.heap.size, 0, none⟩) 21 21) ∧ w.alloc (.cells signCells 9) = w' := by
  go_enter Try.func16, Try.ntmps16
  go_wp2
  go_ret
  exact ⟨rfl, rfl⟩

def kindCells : Array Value := #[.func (.func 67) #[.agg #[.int .u8 97, .int .u8 122]] #[], .func (.func 67) #[.agg #[.int .u8 48, .int .u8 57]] #[], .func (.func 67) #[.agg #[.int .u8 95, .int .u8 95]] #[]]

theorem kinds_any (w : World) :
    Calls Try.prog 54 #[] w fun e w' => e = .returned (.agg kindCells) ∧ w.alloc (.cells kindCells 94) = w' := by
  have hmf : ∀ (fn : Fn) (first cap : Array Value) (w : World), (Instr.makeFunc fn first cap).run Try.prog w = .ok (.func fn first cap) w := fun _ _ _ _ => rfl
  go_enter Try.func54, Try.ntmps54
  go_wp2
  exact bodyPost_ret (v := .agg kindCells) (by simp [results, Try.results54, go_sem, kindCells]) rfl ⟨rfl, rfl⟩

set_option maxHeartbeats 400000 in
theorem index_any (b n c : Nat) (zs : List ByteArray) (x : ByteArray) (w : World) (hz : zs.length = n) (hbig : n ≤ 1000000)
    (hc : ∀ j, j < n → w.cell? ⟨b, j, none⟩ = some (.string (zs.getD j ByteArray.empty))) :
    Calls Try.prog 66 #[.slice (some ⟨b, 0, none⟩) n c, .string x] w fun e w' => IntIs (fun i => decide (0 ≤ i) = memB zs x) e ∧ w = w' := by
  have HZ := Lib.hid hz
  have hz' : n ≤ zs.length := by omega
  clear hz
  go_enter Try.func66, Try.ntmps66
  go_wp2
  go_loop [5, 8] (fun _ i => ∃ k : Nat, k ≤ n ∧ i = .int .i64 k ∧ memB (zs.take k) x = false) (fun _ i => n - (intOf i).toNat)
  case atStart => exact ⟨0, Nat.zero_le _, rfl, by simp [memB]⟩
  case round =>
    obtain ⟨k, hk, rfl, hm⟩ := hrel
    have hcell : k < n → w.cell? ⟨b, k, none⟩ = some (.string (zs.getD k ByteArray.empty)) := fun h => hc k h
    have HM := Lib.hid hm
    clear hm hc
    go_wp2
    · rename_i hlt _ _ heq _
      go_ret
      refine ⟨⟨_, rfl, ?_⟩, rfl⟩
      rw [memB_hit zs x k (by omega) (by simpa using heq)]
      simp
    · rename_i hlt hne
      refine ⟨⟨k + 1, by omega, by simp, ?_⟩, by simp [intOf]; omega⟩
      exact memB_miss zs x k (by omega) HM.out (by simpa using hne)
    · rename_i hge _
      go_ret
      refine ⟨⟨_, rfl, ?_⟩, rfl⟩
      have : k = zs.length := by have := HZ.out; omega
      have h := HM.out
      rw [this, List.take_length] at h
      rw [h]; rfl


def KindsAt (w : World) (b : Nat) : Prop := w.cell? ⟨b, 0, none⟩ = some (.func (.func 67) #[.agg #[.int .u8 97, .int .u8 122]] #[]) ∧ w.cell? ⟨b, 1, none⟩ = some (.func (.func 67) #[.agg #[.int .u8 48, .int .u8 57]] #[]) ∧ w.cell? ⟨b, 2, none⟩ = some (.func (.func 67) #[.agg #[.int .u8 95, .int .u8 95]] #[])

theorem has_yes (lo hi b : Int) (w : World) (h : lo ≤ b ∧ b ≤ hi) :
    Calls Try.prog 67 #[.agg #[.int .u8 lo, .int .u8 hi], .int .u8 b] w fun e w' => e = .returned (.bool true) ∧ Below w.heap.size w w' :=
  (has_any lo hi b w).mono fun e w' ⟨he, hw⟩ => ⟨by rw [he]; simp [h.1, h.2], by rw [← hw]; exact (Below.refl _ _).alloc (Nat.le_refl _) _⟩
theorem has_no (lo hi b : Int) (w : World) (h : b < lo ∨ hi < b) :
    Calls Try.prog 67 #[.agg #[.int .u8 lo, .int .u8 hi], .int .u8 b] w fun e w' => e = .returned (.bool false) ∧ Below w.heap.size w w' :=
  (has_any lo hi b w).mono fun e w' ⟨he, hw⟩ => ⟨by rw [he]; simp; omega, by rw [← hw]; exact (Below.refl _ _).alloc (Nat.le_refl _) _⟩


end Go.Proofs.Ytigppjgmfonodaa
