/- The reader of the program: skip: what a call does. -/
import Derived.Test.YtigppjgmfonodaaLexG
import Derived.Lib.IndexBytes
namespace Go.Proofs.Ytigppjgmfonodaa
open Go.RowKit

theorem byte_ne {a b : UInt8} (h : a ≠ b) : ((a.toNat : Int) == (b.toNat : Int)) = false := by rw [byte_beq]; exact beq_eq_false_iff_ne.2 h
theorem skip_end {l : List UInt8} {k : Nat} (h : l.length ≤ k) : skipF false (l.drop k) = l.drop k := by
  rw [List.drop_eq_nil_of_le h]; rfl

theorem posOf_set {w : World} {b : Nat} {s : ByteArray} {k : Int} (h : RdAt w b s k) (n : Int) : posOf (w.setCell ⟨b, 1, none⟩ (.int .i64 n)) b = n.toNat := by
  unfold posOf; rw [(h.set n).cells.2.1]
theorem index_nl (s : ByteArray) (k : Nat) (j : Int) (w : World) (hj : Lib.indexByte (s.data.toList.drop k) 10 = j) :
    Calls Try.prog 40 #[.string (s.extract k s.size), .int .u8 10] w fun e w' => e = .returned (.int .i64 j) ∧ Below w.heap.size w w' :=
  (Try.strings_IndexByte (s.extract k s.size) 10 w).mono fun e w' ⟨he, hw⟩ => ⟨by rw [he, Lib.extract_to_end, ← hj]; rfl, by rw [hw]; exact Below.refl _ _⟩

def SkipPost (b : Nat) (s : ByteArray) (k : Nat) (w : World) (e : Ending) (w' : World) : Prop :=
  e = .returned (.tuple #[]) ∧ RdAt w' b s (skipN s.data.toList k) ∧ w.grownBy w' (some b)
def SkipRel (b : Nat) (s : ByteArray) (k : Nat) (w : World) (wr : World) : Prop :=
  ∃ k' : Nat, k ≤ k' ∧ k' ≤ s.size ∧ RdAt wr b s k' ∧ skipF false (s.data.toList.drop k') = skipF false (s.data.toList.drop k) ∧ w.grownBy wr (some b)

set_option maxRecDepth 100000 in
set_option maxHeartbeats 4000000 in
theorem skip_any (b : Nat) (s : ByteArray) (k : Nat) (w : World) (hs : s.size ≤ 1000000) (hk : k ≤ s.size) (hR : RdAt w b s k) :
    Calls Try.prog 55 #[.pointer (some ⟨b, 0, none⟩)] w (SkipPost b s k w) := by
  have hstart : SkipRel b s k w w := ⟨k, Nat.le_refl _, hk, hR, rfl, only_refl _ _⟩
  have HS := Lib.hid hstart
  clear hR hk hstart
  go_enter Try.func55, Try.ntmps55
  go_wp2
  go_loopw [2] (fun _ wr => SkipRel b s k w wr) (fun _ wr => s.size - posOf wr b)
  case atStart => exact HS.out
  case round =>
    clear HS
    obtain ⟨k', hk1, hk2, hR, hsk, hO⟩ := hrel
    have HK := Lib.hid hsk
    have HR := Lib.hid hR
    have HP := Lib.hid (posOf_eq hR)
    have c0 : ∀ x : Later wr, x.world.cell? ⟨b, 0, none⟩ = some (.string s) := later_cell hR.cells.1
    have c1 : ∀ x : Later wr, x.world.cell? ⟨b, 1, none⟩ = some (.int .i64 (k' : Int)) := later_cell hR.cells.2.1
    clear hsk hR
    by_cases hlt : k' < s.size
    · go_wp2_with fail
      refine wp_region_later (by kernel_rfl) (by kernel_rfl) ?_
      repeat (go_big_quiet_step (fail))
      refine wpQuiet_nil ?_
      intro w1 hb1
      have HR1 := Lib.hid (HR.out.below hb1)
      clear c0 c1
      have d0 : ∀ x : Later w1, x.world.cell? ⟨b, 0, none⟩ = some (.string s) := later_cell HR1.out.cells.1
      have d1 : ∀ x : Later w1, x.world.cell? ⟨b, 1, none⟩ = some (.int .i64 (k' : Int)) := later_cell HR1.out.cells.2.1
      go_wp2_with fail
      refine wp_region_later (by kernel_rfl) (by kernel_rfl) ?_
      repeat (go_big_quiet_step (fail))
      refine wpQuiet_nil ?_
      intro w2 hb2
      have HR2 := Lib.hid (HR1.out.below hb2)
      have HO2 : Hid (w.grownBy w2 (some b)) := Lib.hid (only_below (only_below hO hb1) hb2)
      clear d0 d1 HR HR1 hb1 hb2 hO
      have e0 := HR2.out.cells.1
      have e1 := HR2.out.cells.2.1
      have e2 := HR2.out.cells.2.2
      have hl : k' < s.data.toList.length := by simpa using hlt
      have g1 : (k' : Int) + 1 ≤ 9223372036854775807 := by omega
      by_cases h32 : s[k'] = 32
      · have f1 : ((s[k'].toNat : Int) == 32) = true := by rw [h32]; rfl
        have HN : Hid (skipF false (s.data.toList.drop (k' + 1)) = skipF false (s.data.toList.drop k)) := Lib.hid ((skip_blank hl (.inl h32)).symm.trans HK.out)
        clear h32
        go_wp2
        go_roundw
        case rel => exact ⟨k' + 1, by omega, by omega, HR2.out.set _, HN.out, only_set HO2.out _ _⟩
        case measure => rw [posOf_set HR2.out, HP.out]; omega
      · have f1 : ((s[k'].toNat : Int) == 32) = false := byte_ne h32
        by_cases h10 : s[k'] = 10
        · have f2 : ((s[k'].toNat : Int) == 10) = true := by rw [h10]; rfl
          have HN : Hid (skipF false (s.data.toList.drop (k' + 1)) = skipF false (s.data.toList.drop k)) := Lib.hid ((skip_blank hl (.inr h10)).symm.trans HK.out)
          clear h32 h10
          go_wp2
          go_roundw
          case rel => exact ⟨k' + 1, by omega, by omega, HR2.out.set _, HN.out, only_set HO2.out _ _⟩
          case measure => rw [posOf_set HR2.out, HP.out]; omega
        · have f2 : ((s[k'].toNat : Int) == 10) = false := byte_ne h10
          by_cases h35 : s[k'] = 35
          · have f3 : ((s[k'].toNat : Int) == 35) = true := by rw [h35]; rfl
            have HC := Lib.hid h35
            clear h32 h10 h35
            obtain ⟨j, hj⟩ : ∃ j, Lib.indexByte (s.data.toList.drop k') 10 = j := ⟨_, rfl⟩
            have HJ := Lib.hid hj
            clear hj
            have d0 : ∀ x : Later w2, x.world.cell? ⟨b, 0, none⟩ = some (.string s) := later_cell HR2.out.cells.1
            have d1 : ∀ x : Later w2, x.world.cell? ⟨b, 1, none⟩ = some (.int .i64 (k' : Int)) := later_cell HR2.out.cells.2.1
            go_wp2_with fail
            refine wp_region_later (by kernel_rfl) (by kernel_rfl) ?_
            repeat (go_big_quiet_step ((go_at_call 40; exact Calls.later_of (index_nl _ _ _ _ HJ.out))))
            refine wpQuiet_nil ?_
            intro w3 hb3
            have HR3 := Lib.hid (HR2.out.below hb3)
            have HO3 : Hid (w.grownBy w3 (some b)) := Lib.hid (only_below HO2.out hb3)
            clear d0 d1 e0 e1 e2 HO2 hb3
            by_cases hneg : j < 0
            · have HN : Hid (skipF false (s.data.toList.drop s.size) = skipF false (s.data.toList.drop k)) := Lib.hid (by
                have h := skip_comment_none hl HC.out (indexByte_neg (by rw [HJ.out]; exact hneg))
                have e : s.data.toList.length = s.size := by simp
                rw [e] at h
                exact h.symm.trans HK.out)
              have d0 : ∀ x : Later w3, x.world.cell? ⟨b, 0, none⟩ = some (.string s) := later_cell HR3.out.cells.1
              have d1 : ∀ x : Later w3, x.world.cell? ⟨b, 1, none⟩ = some (.int .i64 (k' : Int)) := later_cell HR3.out.cells.2.1
              go_wp2_with fail
              refine wp_region_later (by kernel_rfl) (by kernel_rfl) ?_
              repeat (go_big_quiet_step (fail))
              refine wpQuiet_nil ?_
              intro w4 hb4
              have HR4 := Lib.hid (HR3.out.below hb4)
              have HO4 : Hid (w.grownBy w4 (some b)) := Lib.hid (only_below HO3.out hb4)
              clear d0 d1 hb4 HO3 HR3 HR2
              have e0 := HR4.out.cells.1
              have e1 := HR4.out.cells.2.1
              have e2 := HR4.out.cells.2.2
              have hz : (k' : Int) + ((s.size : Int) - (k' : Int)) = s.size := by omega
              go_wp2
              go_roundw
              case rel => exact ⟨s.size, by omega, by omega, HR4.out.set _, HN.out, only_set HO4.out _ _⟩
              case measure => rw [posOf_set HR4.out, HP.out]; omega
            · have hx := skip_comment_some hl HC.out (by rw [HJ.out]; exact hneg)
              obtain ⟨jn, hj1, hj2, hj3, hj4⟩ := hx
              have HN := Lib.hid (hj4.symm.trans HK.out)
              have hj5 : s.data.toList.length = s.size := by simp
              rw [hj5] at hj3
              have HE : Hid (j = jn) := Lib.hid (HJ.out.symm.trans hj1)
              have hb1 : (k' : Int) + j < s.size := by have := HE.out; omega
              have hb2 : 0 < j := by have := HE.out; omega
              have HT : Hid ((k' : Int) + j = ((k' + jn : Nat) : Int)) := Lib.hid (by have := HE.out; omega)
              clear hj1 hj4 hj5 HJ
              have e0 := HR3.out.cells.1
              have e1 := HR3.out.cells.2.1
              have e2 := HR3.out.cells.2.2
              go_wp2
              go_roundw
              case rel => exact ⟨k' + jn, by omega, by omega, by rw [HT.out]; exact HR3.out.set _, HN.out, only_set HO3.out _ _⟩
              case measure => rw [posOf_set HR3.out, HP.out]; omega
          · have f3 : ((s[k'].toNat : Int) == 35) = false := byte_ne h35
            have HN : Hid (skipN s.data.toList k = k') := Lib.hid (skipN_of HK.out (skip_other hl h32 h10 h35) (by omega))
            clear h32 h10 h35
            go_wp2
            go_end0
            exact ⟨rfl, by rw [HN.out]; exact HR2.out, HO2.out⟩
    · have HN : Hid (skipN s.data.toList k = k') := Lib.hid (skipN_of HK.out (skip_end (by simp; omega)) (by simp; omega))
      go_wp2_with fail
      refine wp_region_later (by kernel_rfl) (by kernel_rfl) ?_
      repeat (go_big_quiet_step (fail))
      refine wpQuiet_nil ?_
      intro w1 hb1
      go_wp2
      go_end0
      exact ⟨rfl, by rw [HN.out]; exact HR.out.below hb1, only_below hO hb1⟩
end Go.Proofs.Ytigppjgmfonodaa
