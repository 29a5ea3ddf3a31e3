/- A part of the proof of ExprChecks: texts of this claim, merged. -/
import Derived.Lib.Bytealg
import Derived.Shelf.Strings.Builder1
import Derived.Shelf.Small.Strs
import Derived.Shelf.Small.Wraps
import Derived.Shelf.Strings.BuilderF
import Derived.Shelf.Strings.BuilderK
import Derived.Shelf.Strconv.Atoi
import Derived.Shelf.Strconv.Itoa0
import Derived.Shelf.Strconv.Itoa1
import Derived.Shelf.LaysM
import Derived.Shelf.Strconv.Itoa2
import Derived.Shelf.Strconv.Itoa3
import Derived.Shelf.Strconv.AtoiErrFast
import Derived.Shelf.Strconv.ParseIntEmpty
import Derived.Shelf.Strconv.AtoiFail
import Derived.Shelf.Strconv.Clone
import Derived.Shelf.Strconv.SyntaxError
import Derived.Shelf.LaysC
import Derived.Shelf.Strconv.ToError
import Derived.Shelf.Strconv.AtoiErr
import Derived.Shelf.Strconv.ErrVar
import Derived.Shelf.Strconv.Lower
import Derived.Shelf.Strconv.ParseUint10
import Derived.Shelf.Strconv.ParseUint10Empty
import Derived.Shelf.Strconv.ParseUint10Any
import Derived.Shelf.Strconv.ParseInt10
import Derived.Shelf.Strconv.AtoiLong
import Derived.Shelf.Strconv.AtoiInnerAll
import Derived.Shelf.Strconv.RangeError
import Derived.Shelf.Strconv.ToErrorRange
import Derived.Shelf.Strconv.AtoiAll
import Derived.Shelf.Strconv.ErrVarAll
import Derived.Shelf.Strconv.ParseUintEmpty
import Derived.Shelf.Strconv.ParseUint10b64
import Derived.Shelf.Strconv.ParseUint10b32
import Derived.Shelf.Strconv.ParseUint10b16
import Derived.Shelf.Strconv.ParseUint10b8
import Derived.Shelf.Strconv.ParseUint10At
import Derived.Ground.MpProg
import Derived.Shelf.Pu.ParseUintPublic10
import Derived.Shelf.Pu.ErrVarParseUint
import Derived.Shelf.Strings.Search1
import Derived.Shelf.Strings.Search2
import Derived.Shelf.Strings.Cut
import Derived.Shelf.Strings.Shaped
import Derived.Shelf.Strings.Prefix
import Derived.Test.YtiledamgmppcmaaGreatDoorProg
import Derived.Deep.DeepCutAuto
import Derived.Lib.IndexBytes
import Derived.Deep.LoopGhost
import Derived.StillTail
import Derived.BigRegion
import Derived.Deep.CutBlock
import Derived.Deep.RegionHeld3
import Derived.RangeFuncBox
import Derived.RangeFuncLeaves
import Derived.RangeFuncCalls
import Derived.OwnWalkIn
import Derived.TacticsInMore
import Derived.LoopNIn
import Derived.LoopIn
import Derived.RecoverIn
import Derived.RangeFuncNested
import Derived.Maps.AppendAt
import Derived.Shelf.Abstract
import Derived.Shelf.RegionOpen
import Derived.Laws.StructEq
import Derived.Lib.Join
import Derived.Deep.AppendLies
import Derived.Deep.RegionLaw
import Derived.Laws.Tables
import Derived.Laws.Rows
import Derived.Laws.EntriesVeiled
import Derived.Test.YtiledamgmppcmaaGreatDoorZExprChecks2
/-! LexD -/
namespace Go.Proofs.YtiledamgmppcmaaGreatDoor
open Go.RowKit

set_option maxHeartbeats 1000000 in
theorem number_any (s : ByteArray) (w : World) (hs : s.size ≤ 9223372036854775807) :
    Calls Tryz.prog 150 #[.string s] w fun e w' => e = .returned (.bool (numberB s.data.toList)) ∧ Below w.heap.size w w' := by
  have i1 : ∀ w, (Instr.index 190 (.agg kindCells) (.int .i64 1)).run Tryz.prog w = .ok (.func (.func 172) #[.agg #[.int .u8 48, .int .u8 57]] #[]) w := fun _ => by kernel_rfl
  go_enter Tryz.func150, Tryz.ntmps150
  go_wp2_with (go_at_call 130; refine (kinds_any _).mono ?_; rintro e w' ⟨rfl, rfl⟩)
  clear i1
  go_loopw [4, 9] (fun _ i wr => ∃ k : Nat, k ≤ s.size ∧ i = .int .i64 k ∧ (s.data.toList.take k).all digitB = true ∧ Below w.heap.size w wr) (fun _ i _ => s.size - (intOf i).toNat)
  case atStart =>
    exact ⟨0, by omega, rfl, by simp, (Below.refl _ _).alloc (Nat.le_refl _) _⟩
  case round =>
    obtain ⟨k, hk, rfl, hm, hB⟩ := hrel
    have hBs := hB.size
    have HM := Lib.hid hm
    clear hm
    by_cases hlt : k < s.size
    · have hl : k < s.data.toList.length := by simpa using hlt
      have hcase2 : (48 ≤ (s[k].toNat : Int) ∧ (s[k].toNat : Int) ≤ 57) ∨ ((s[k].toNat : Int) < 48 ∨ 57 < (s[k].toNat : Int)) := by omega
      rcases hcase2 with hc | hc
      case inl =>
        have HP : Hid (digitB s[k] = true) := Lib.hid (digitB_of hc)
        go_wp2_with (go_at_call 172; refine (has_yes _ _ _ _ (by omega)).mono ?_; rintro e w1 ⟨rfl, hb1⟩)
        go_roundw
        case rel => exact ⟨k + 1, by omega, by go_num, wb_step hl HM.out HP.out, hB.trans (hb1.mono hBs)⟩
        case measure => simp [intOf]; omega
      case inr =>
        have HF : Hid (numberB s.data.toList = false) := Lib.hid (by simp [numberB, all_false_at hl (digitB_not hc)])
        go_wp2_with (go_at_call 172; refine (has_no _ _ _ _ (by omega)).mono ?_; rintro e w1 ⟨rfl, hb1⟩)
        go_ret
        exact ⟨ret_bool HF.out.symm, hB.trans (hb1.mono hBs)⟩
    · have HA : Hid (s.data.toList.all digitB = true) := Lib.hid (take_all (by simp; omega) HM.out)
      by_cases h0 : s.toList = [48]
      · have HF : Hid (numberB s.data.toList = true) := Lib.hid (by rw [numberB, HA.out, ← toList_data, h0]; rfl)
        go_wp2
        go_ret
        exact ⟨ret_bool HF.out.symm, hB⟩
      · have HN : Hid ((s.data.toList == [48]) = false) := Lib.hid (by rw [← toList_data]; simpa using h0)
        have h0' : (s.toList == [48]) = false := by simpa using h0
        clear h0
        by_cases hz0 : s.size = 0
        · have hz : s.toList = [] := toList_of_size_zero hz0
          have HF : Hid (numberB s.data.toList = false) := Lib.hid (by rw [numberB, HN.out, ← toList_data, hz]; rfl)
          go_wp2
          go_ret
          exact ⟨ret_bool HF.out.symm, hB⟩
        · have hz : s.toList.isEmpty = false := toList_of_size_pos (by omega)
          have hp : 0 < s.size := by omega
          have HF : Hid (numberB s.data.toList = ((!(s[0] == 48)) && decide (s.size ≤ 4))) := Lib.hid (by
            rw [numberB, HA.out, HN.out, head_of hp, ← toList_data, hz]
            simp [toList_data, bne])
          clear hz0
          by_cases h48 : s[0] = 48
          · have h1 : ((s[0].toNat : Int) != 48) = false := by rw [h48]; rfl
            have HG : Hid (numberB s.data.toList = false) := Lib.hid (by rw [HF.out, h48]; rfl)
            clear h48
            go_wp2
            go_ret
            exact ⟨ret_bool HG.out.symm, hB⟩
          · have h1 : ((s[0].toNat : Int) != 48) = true := by
              rw [bne_iff_ne]; intro h; apply h48; exact UInt8.toNat_inj.1 (by simpa using Int.ofNat.inj h)
            have HG : Hid (numberB s.data.toList = decide (s.size ≤ 4)) := Lib.hid (by rw [HF.out, beq_eq_false_iff_ne.2 h48]; rfl)
            clear h48
            go_wp2
            go_ret
            exact ⟨ret_bool (by rw [HG.out, Bool.eq_iff_iff]; simp; omega), hB⟩
end Go.Proofs.YtiledamgmppcmaaGreatDoor
/-! LexE -/
namespace Go.Proofs.YtiledamgmppcmaaGreatDoor
open Go.RowKit

theorem rwords_any (w : World) :
    Calls Tryz.prog 58 #[] w fun e w' => e = .returned (.slice (some ⟨w.heap.size, 0, none⟩) 23 23) ∧ w.alloc (.cells wordCells 9) = w' := by
  go_enter Tryz.func58, Tryz.ntmps58
  go_wp2
  go_ret
  exact ⟨rfl, rfl⟩

theorem words_cells (w : World) (j : Nat) (h : j < 23) : (w.alloc (.cells wordCells 9)).cell? ⟨w.heap.size, j, none⟩ = some (.string (wordList.getD j ByteArray.empty)) :=
  (World.cell?_alloc_new _ _ _ _).trans (wordCells_at j h)
theorem signs_cells (w : World) (j : Nat) (h : j < 21) : (w.alloc (.cells signCells 9)).cell? ⟨w.heap.size, j, none⟩ = some (.string (signList.getD j ByteArray.empty)) :=
  (World.cell?_alloc_new _ _ _ _).trans (signCells_at j h)

theorem name_parts (l : List UInt8) : nameB l = (l.all partB && (l.head?.map letterB).getD false && decide (l.length ≤ 12) && !memL wordBytes l) := rfl

set_option maxHeartbeats 1000000 in
theorem rname_any (s : ByteArray) (w : World) (hs : s.size ≤ 9223372036854775807) :
    Calls Tryz.prog 142 #[.string s] w fun e w' => e = .returned (.bool (nameB s.data.toList)) ∧ Below w.heap.size w w' := by
  have hlen : s.data.toList.length = s.size := by simp
  have HL := Lib.hid hlen
  clear hlen
  by_cases h1 : s.size < 1
  · have HF : Hid (nameB s.data.toList = false) := Lib.hid (by
      have hz : s.toList = [] := toList_of_size_zero (by omega)
      rw [name_parts, ← toList_data, hz]; rfl)
    go_enter Tryz.func142, Tryz.ntmps142
    go_wp2
    go_ret
    exact ⟨ret_bool HF.out.symm, Below.refl _ _⟩
  · have hp : 0 < s.size := by omega
    have HH := Lib.hid (head_of hp)
    by_cases h2 : 12 < s.size
    · have HF : Hid (nameB s.data.toList = false) := Lib.hid (by
        rw [name_parts, decide_eq_false (by rw [HL.out]; omega)]; simp)
      go_enter Tryz.func142, Tryz.ntmps142
      go_wp2
      go_ret
      exact ⟨ret_bool HF.out.symm, Below.refl _ _⟩
    · cases h3 : letterB s[0]
      · have HF : Hid (nameB s.data.toList = false) := Lib.hid (by
          rw [name_parts, HH.out]; simp [h3])
        go_enter Tryz.func142, Tryz.ntmps142
        go_wp2_with (go_at_call 104; refine (letter_any _ _).mono ?_; rintro e w' ⟨rfl, rfl⟩)
        go_ret
        exact ⟨ret_bool HF.out.symm, Below.refl _ _⟩
      · cases h4 : memB wordList s
        · have HG : Hid (nameB s.data.toList = s.data.toList.all partB) := Lib.hid (by
            rw [name_parts, HH.out, ← memB_words, h4]; simp [h3]; intro _; omega)
          go_enter Tryz.func142, Tryz.ntmps142
          go_wp2_with (first | (go_at_call 104; refine (letter_any _ _).mono ?_; rintro e w' ⟨rfl, rfl⟩) | (go_at_call 58; refine (rwords_any _).mono ?_; rintro e w' ⟨rfl, rfl⟩) | (go_at_call 105; refine (in_any _ 23 _ wordList _ _ rfl (by omega) (words_cells _)).mono ?_; rintro e w' ⟨rfl, rfl⟩))
          go_loop [3] (fun i => ∃ k : Nat, k ≤ s.size ∧ i = .int .i64 k ∧ (s.data.toList.take k).all partB = true) (fun i => s.size - (intOf i).toNat)
          case atStart => exact ⟨0, by omega, rfl, by simp⟩
          case round =>
            obtain ⟨k, hk, rfl, hm⟩ := hrel
            have HM := Lib.hid hm
            clear hm h3 h4
            by_cases hlt : k < s.size
            · have hl : k < s.data.toList.length := by simpa using hlt
              cases h5 : partB s[k]
              · have HF : Hid (s.data.toList.all partB = false) := Lib.hid (all_false_at hl h5)
                go_wp2_with (go_at_call 103; refine (part_any _ _).mono ?_; rintro e w' ⟨rfl, rfl⟩)
                go_ret
                exact ⟨ret_bool (by rw [HG.out, HF.out]), (Below.refl _ _).alloc (Nat.le_refl _) _⟩
              · have HP : Hid (partB s.data.toList[k] = true) := Lib.hid h5
                go_wp2_with (go_at_call 103; refine (part_any _ _).mono ?_; rintro e w' ⟨rfl, rfl⟩)
                go_round
                case rel => exact ⟨k + 1, by omega, by go_num, wb_step hl HM.out HP.out⟩
                case measure => simp [intOf]; omega
            · have HA : Hid (s.data.toList.all partB = true) := Lib.hid (take_all (by simp; omega) HM.out)
              go_wp2
              go_ret
              exact ⟨ret_bool (by rw [HG.out, HA.out]), (Below.refl _ _).alloc (Nat.le_refl _) _⟩
        · have HF : Hid (nameB s.data.toList = false) := Lib.hid (by
            rw [name_parts, ← memB_words, h4]; simp)
          go_enter Tryz.func142, Tryz.ntmps142
          go_wp2_with (first | (go_at_call 104; refine (letter_any _ _).mono ?_; rintro e w' ⟨rfl, rfl⟩) | (go_at_call 58; refine (rwords_any _).mono ?_; rintro e w' ⟨rfl, rfl⟩) | (go_at_call 105; refine (in_any _ 23 _ wordList _ _ rfl (by omega) (words_cells _)).mono ?_; rintro e w' ⟨rfl, rfl⟩))
          go_ret
          exact ⟨ret_bool HF.out.symm, (Below.refl _ _).alloc (Nat.le_refl _) _⟩

end Go.Proofs.YtiledamgmppcmaaGreatDoor
/-! LexF -/
namespace Go.Proofs.YtiledamgmppcmaaGreatDoor
open Go.RowKit

theorem right_is (kind : Int) (l : List UInt8) : rightB kind l = if kind = 1 then nameB l else if kind = 2 then memL wordBytes l else if kind = 3 then numberB l else if kind = 4 then memL signBytes l else false := rfl

set_option maxHeartbeats 1000000 in
theorem right_any (kind : Int) (s : ByteArray) (w : World) (hs : s.size ≤ 9223372036854775807) :
    Calls Tryz.prog 110 #[.int .i64 kind, .string s] w fun e w' => e = .returned (.bool (rightB kind s.data.toList)) ∧ Below w.heap.size w w' := by
  have hlen : s.data.toList.length = s.size := by simp
  have HL := Lib.hid hlen
  clear hlen
  by_cases h1 : kind = 1
  · subst h1
    cases h2 : wordB s.data.toList
    · go_enter Tryz.func110, Tryz.ntmps110
      go_wp2_with (go_at_call 148; refine (word_any _ _ hs).mono ?_; rintro e w1 ⟨rfl, hb1⟩)
      go_ret
      exact ⟨ret_bool (by rw [right_is, if_pos rfl, nameB, h2]; rfl), hb1⟩
    · by_cases h3 : s.size ≤ 12
      · have HM : Hid (nameB s.data.toList = !memB wordList s) := Lib.hid (by rw [nameB, h2, memB_words, decide_eq_true (by rw [HL.out]; exact h3)]; rfl)
        go_enter Tryz.func110, Tryz.ntmps110
        go_wp2_with (first | (go_at_call 148; refine (word_any _ _ hs).mono ?_; rintro e w1 ⟨rfl, hb1⟩) | (go_at_call 149; refine (words_any _).mono ?_; rintro e w' ⟨rfl, rfl⟩) | (go_at_call 50; refine (contains_any _ 23 _ wordList _ _ rfl (by omega) (words_cells _)).mono ?_; rintro e w' ⟨rfl, rfl⟩))
        go_ret
        exact ⟨ret_bool (by rw [right_is, if_pos rfl, HM.out]), hb1.alloc hb1.size _⟩
      · go_enter Tryz.func110, Tryz.ntmps110
        go_wp2_with (go_at_call 148; refine (word_any _ _ hs).mono ?_; rintro e w1 ⟨rfl, hb1⟩)
        go_ret
        exact ⟨ret_bool (by rw [right_is, if_pos rfl, nameB, decide_eq_false (by rw [HL.out]; exact h3)]; simp), hb1⟩
  · by_cases h2 : kind = 2
    · subst h2
      go_enter Tryz.func110, Tryz.ntmps110
      go_wp2_with (first | (go_at_call 149; refine (words_any _).mono ?_; rintro e w' ⟨rfl, rfl⟩) | (go_at_call 50; refine (contains_any _ 23 _ wordList _ _ rfl (by omega) (words_cells _)).mono ?_; rintro e w' ⟨rfl, rfl⟩))
      go_ret
      exact ⟨ret_bool (by rw [right_is, memB_words]; rfl), (Below.refl _ _).alloc (Nat.le_refl _) _⟩
    · by_cases h3 : kind = 3
      · subst h3
        go_enter Tryz.func110, Tryz.ntmps110
        go_wp2_with (go_at_call 150; refine (number_any _ _ hs).mono ?_; rintro e w1 ⟨rfl, hb1⟩)
        go_ret
        exact ⟨ret_bool rfl, hb1⟩
      · by_cases h4 : kind = 4
        · subst h4
          go_enter Tryz.func110, Tryz.ntmps110
          go_wp2_with (first | (go_at_call 151; refine (signs_any _).mono ?_; rintro e w' ⟨rfl, rfl⟩) | (go_at_call 50; refine (contains_any _ 21 _ signList _ _ rfl (by omega) (signs_cells _)).mono ?_; rintro e w' ⟨rfl, rfl⟩))
          go_ret
          exact ⟨ret_bool (by rw [right_is, memB_signs]; rfl), (Below.refl _ _).alloc (Nat.le_refl _) _⟩
        · have HF : Hid (rightB kind s.data.toList = false) := Lib.hid (by rw [right_is, if_neg h1, if_neg h2, if_neg h3, if_neg h4])
          go_enter Tryz.func110, Tryz.ntmps110
          go_wp2
          go_ret
          exact ⟨ret_bool HF.out.symm, Below.refl _ _⟩

set_option maxHeartbeats 1000000 in
theorem check_any (kind : Int) (s : ByteArray) (a : Int) (w : World) (hs : s.size ≤ 9223372036854775807) :
    Calls Tryz.prog 69 #[.agg #[.int .i64 kind, .string s, .int .i64 a]] w fun e w' => e = .returned (.int .i64 (checkE kind s.data.toList a)) ∧ Below w.heap.size w w' := by
  by_cases h1 : a < 0
  · have HF : Hid (checkE kind s.data.toList a = 340) := Lib.hid (if_pos (.inl h1))
    go_enter Tryz.func69, Tryz.ntmps69
    go_wp2
    go_ret
    exact ⟨ret_int HF.out.symm, (Below.refl _ _).alloc (Nat.le_refl _) _⟩
  · by_cases h2 : 20000 ≤ a
    · have HF : Hid (checkE kind s.data.toList a = 340) := Lib.hid (if_pos (.inr (.inl h2)))
      go_enter Tryz.func69, Tryz.ntmps69
      go_wp2
      go_ret
      exact ⟨ret_int HF.out.symm, (Below.refl _ _).alloc (Nat.le_refl _) _⟩
    · cases h3 : rightB kind s.data.toList
      · have HF : Hid (checkE kind s.data.toList a = 340) := Lib.hid (if_pos (.inr (.inr h3)))
        go_enter Tryz.func69, Tryz.ntmps69
        go_wp2_with (go_at_call 110; refine (right_any _ _ _ hs).mono ?_; rintro e w1 ⟨rfl, hb1⟩)
        go_ret
        exact ⟨ret_int HF.out.symm, ((Below.refl _ _).alloc (Nat.le_refl _) _).trans (hb1.mono (by simp))⟩
      · have HF : Hid (checkE kind s.data.toList a = 0) := Lib.hid (if_neg (by rw [h3]; simp; omega))
        go_enter Tryz.func69, Tryz.ntmps69
        go_wp2_with (go_at_call 110; refine (right_any _ _ _ hs).mono ?_; rintro e w1 ⟨rfl, hb1⟩)
        go_ret
        exact ⟨ret_int HF.out.symm, ((Below.refl _ _).alloc (Nat.le_refl _) _).trans (hb1.mono (by simp))⟩

end Go.Proofs.YtiledamgmppcmaaGreatDoor
/-! LexN -/
namespace Go.Proofs.YtiledamgmppcmaaGreatDoor
open Go.RowKit

/-- What is left behind space and comments; true: within a comment. -/
def skipF : Bool → List UInt8 → List UInt8
  | _, [] => []
  | true, c :: t => if c = 10 then skipF false t else skipF true t
  | false, c :: t => if c = 32 ∨ c = 10 then skipF false t else if c = 35 then skipF true t else c :: t

theorem skipF_le (b : Bool) (l : List UInt8) : (skipF b l).length ≤ l.length := by
  induction l generalizing b with
  | nil => cases b <;> simp [skipF]
  | cons c t ih =>
    cases b
    · simp only [skipF]
      split
      · have := ih false; simp; omega
      · split
        · have := ih true; simp; omega
        · simp
    · simp only [skipF]
      split
      · have := ih false; simp; omega
      · have := ih true; simp; omega

theorem skipF_suffix (b : Bool) (l : List UInt8) : skipF b l = l.drop (l.length - (skipF b l).length) := by
  induction l generalizing b with
  | nil => cases b <;> simp [skipF]
  | cons c t ih =>
    have key : ∀ b', skipF b' t = (c :: t).drop ((c :: t).length - (skipF b' t).length) := by
      intro b'
      have h := skipF_le b' t
      rw [show (c :: t).length - (skipF b' t).length = (t.length - (skipF b' t).length) + 1 from by simp; omega, List.drop_succ_cons]
      exact ih b'
    cases b
    · simp only [skipF]
      split
      · exact key false
      · split
        · exact key true
        · simp
    · simp only [skipF]
      split
      · exact key false
      · exact key true

theorem skipF_index (l : List UInt8) : (Lib.indexByte l 10 = -1 ∧ skipF true l = []) ∨ ∃ j : Nat, Lib.indexByte l 10 = j ∧ j < l.length ∧ skipF true l = skipF false (l.drop j) := by
  induction l with
  | nil => exact .inl ⟨rfl, rfl⟩
  | cons c t ih =>
    by_cases h : c = 10
    · refine .inr ⟨0, by simp [Lib.indexByte, h], by simp, ?_⟩
      simp [skipF, h]
    · rcases ih with ⟨h1, h2⟩ | ⟨j, h1, h2, h3⟩
      · exact .inl ⟨by simp [Lib.indexByte, h, h1], by simp [skipF, h, h2]⟩
      · refine .inr ⟨j + 1, ?_, by simp; omega, ?_⟩
        · have hne : ¬ ((j : Int) = -1) := by omega
          simp [Lib.indexByte, h, h1, hne]
        · simp [skipF, h, h3]

theorem drop_cons {l : List UInt8} {k : Nat} (h : k < l.length) : l.drop k = l[k] :: l.drop (k + 1) := List.drop_eq_getElem_cons h

theorem skip_blank {l : List UInt8} {k : Nat} (h : k < l.length) (hc : l[k] = 32 ∨ l[k] = 10) : skipF false (l.drop k) = skipF false (l.drop (k + 1)) := by
  rw [drop_cons h]; simp [skipF, hc]
theorem skip_comment {l : List UInt8} {k : Nat} (h : k < l.length) (hc : l[k] = 35) : skipF false (l.drop k) = skipF true (l.drop (k + 1)) := by
  rw [drop_cons h]; simp [skipF, hc]
theorem skip_other {l : List UInt8} {k : Nat} (h : k < l.length) (h1 : l[k] ≠ 32) (h2 : l[k] ≠ 10) (h3 : l[k] ≠ 35) : skipF false (l.drop k) = l.drop k := by
  rw [drop_cons h]; simp [skipF, h1, h2, h3]
theorem skip_comment_none {l : List UInt8} {k : Nat} (h : k < l.length) (hc : l[k] = 35) (hi : Lib.indexByte (l.drop k) 10 = -1) : skipF false (l.drop k) = skipF false (l.drop l.length) := by
  rw [skip_comment h hc]
  have e : Lib.indexByte (l.drop k) 10 = if Lib.indexByte (l.drop (k + 1)) 10 == -1 then -1 else Lib.indexByte (l.drop (k + 1)) 10 + 1 := by
    rw [drop_cons h, hc]; rfl
  rcases skipF_index (l.drop (k + 1)) with ⟨_, h2⟩ | ⟨j, h1, _, _⟩
  · rw [h2]; simp [skipF]
  · rw [e, h1] at hi
    have : ¬ ((j : Int) == -1) = true := by simp
    rw [if_neg this] at hi; omega
theorem skip_comment_some {l : List UInt8} {k : Nat} (h : k < l.length) (hc : l[k] = 35) (hi : ¬ Lib.indexByte (l.drop k) 10 < 0) :
    ∃ j : Nat, Lib.indexByte (l.drop k) 10 = j ∧ 1 ≤ j ∧ k + j < l.length ∧ skipF false (l.drop k) = skipF false (l.drop (k + j)) := by
  rw [skip_comment h hc]
  have e : Lib.indexByte (l.drop k) 10 = if Lib.indexByte (l.drop (k + 1)) 10 == -1 then -1 else Lib.indexByte (l.drop (k + 1)) 10 + 1 := by
    rw [drop_cons h, hc]; rfl
  rcases skipF_index (l.drop (k + 1)) with ⟨h1, _⟩ | ⟨j, h1, h2, h3⟩
  · rw [e, h1] at hi; simp at hi
  · have hne : ¬ ((j : Int) == -1) = true := by simp
    refine ⟨j + 1, ?_, by omega, ?_, ?_⟩
    · rw [e, h1, if_neg hne]; omega
    · simp at h2; omega
    · rw [h3, List.drop_drop]; congr 2; omega
theorem indexByte_neg {l : List UInt8} {c : UInt8} (h : Lib.indexByte l c < 0) : Lib.indexByte l c = -1 := by
  induction l with
  | nil => rfl
  | cons b t ih =>
    simp only [Lib.indexByte] at h ⊢
    split
    · rename_i h1; rw [if_pos h1] at h; simp at h
    · rename_i h1
      rw [if_neg h1] at h
      split
      · rfl
      · rename_i h2
        rw [if_neg h2] at h
        have := ih (by omega)
        exact absurd (by simpa using this) h2

/-- Where a text goes on behind space and comments. -/
def skipN (l : List UInt8) (k : Nat) : Nat := l.length - (skipF false (l.drop k)).length
theorem skipN_ge (l : List UInt8) (k : Nat) (h : k ≤ l.length) : k ≤ skipN l k ∧ skipN l k ≤ l.length := by
  have := skipF_le false (l.drop k)
  unfold skipN
  simp at this
  omega
theorem skipN_of {l : List UInt8} {k k' : Nat} (h : skipF false (l.drop k') = skipF false (l.drop k)) (he : skipF false (l.drop k') = l.drop k') (hk : k' ≤ l.length) : skipN l k = k' := by
  unfold skipN
  rw [← h, he]; simp; omega
theorem skipN_drop (l : List UInt8) (k : Nat) : l.drop (skipN l k) = skipF false (l.drop k) := by
  unfold skipN
  have h := skipF_suffix false (l.drop k)
  have hle := skipF_le false (l.drop k)
  rw [List.drop_drop] at h
  rcases Nat.lt_or_ge l.length k with hk | hk
  · have e : l.drop k = [] := List.drop_eq_nil_of_le (by omega)
    rw [e]; simp [skipF]
  · rw [List.length_drop] at h hle
    rw [show l.length - (skipF false (l.drop k)).length = k + (l.length - k - (skipF false (l.drop k)).length) from by omega]
    exact h.symm

/-- The token at the head of a text that is not empty: its kind and its text. -/
def oneT (l : List UInt8) : Int × List UInt8 :=
  if (l.head?.map letterB).getD false then (if memL wordBytes (l.takeWhile partB) then 2 else 1, l.takeWhile partB)
  else if (l.head?.map digitB).getD false then (3, l.takeWhile partB)
  else (4, if memL signBytes (l.take 2) then l.take 2 else l.take 1)

theorem takeWhile_of {l : List UInt8} {p : UInt8 → Bool} {n : Nat} (hn : n ≤ l.length) (h : (l.take n).all p = true) (he : ∀ h' : n < l.length, p l[n] = false) : l.takeWhile p = l.take n := by
  induction l generalizing n with
  | nil => simp
  | cons c t ih =>
    cases n with
    | zero =>
      have := he (by simp)
      simp at this
      simp [this]
    | succ n =>
      simp only [List.take_succ_cons, List.all_cons, Bool.and_eq_true] at h
      rw [List.takeWhile_cons, if_pos h.1, List.take_succ_cons, ih (by simpa using hn) h.2 (fun h' => he (Nat.succ_lt_succ h'))]

theorem extract_list (s : ByteArray) (i j : Nat) : s.extract i j = ⟨((s.data.toList.drop i).take (j - i)).toArray⟩ := by
  apply ByteArray.ext
  apply Array.toList_inj.1
  rw [ByteArray.data_extract, Array.toList_extract]

end Go.Proofs.YtiledamgmppcmaaGreatDoor
/-! Shelf -/
namespace Go.Proofs
open Go.Shelf
def Tryz.lays169_ren : Go.Shelf.Ren := ⟨fun | 169 => 161 | n => n, fun | 70 => 210 | 9 => 9 | 0 => 0 | 72 => 212 | 37 => 25 | 127 => 245 | 3 => 3 | 5 => 5 | n => n, fun | n => n⟩
theorem Tryz.lays169 : Go.Proofs.Lays.n169 Tryz.prog Tryz.lays169_ren := {
  mixed := by kernel_rfl
  f169 := Tryz.func161.trans (congrArg some (by kernel_rfl))
  t0 := Tryz.underlying0
  a0 := Tryz.isAgg0
  z0 := Tryz.sizeOf0
  v0 := Tryz.zeroValue0
  t3 := Tryz.underlying3
  a3 := Tryz.isAgg3
  z3 := Tryz.sizeOf3
  v3 := Tryz.zeroValue3
  t9 := Tryz.underlying9
  a9 := Tryz.isAgg9
  z9 := Tryz.sizeOf9
  v9 := Tryz.zeroValue9
  t37 := Tryz.underlying25
  a37 := Tryz.isAgg25
  z37 := Tryz.sizeOf25
  v37 := Tryz.zeroValue25
  t70 := Tryz.underlying210
  a70 := Tryz.isAgg210
  z70 := Tryz.sizeOf210
  v70 := Tryz.zeroValue210
  t72 := Tryz.underlying212
  a72 := Tryz.isAgg212
  z72 := Tryz.sizeOf212
  v72 := Tryz.zeroValue212
  t127 := Tryz.underlying245
  a127 := Tryz.isAgg245
  z127 := Tryz.sizeOf245
  v127 := Tryz.zeroValue245 }
theorem Tryz.Builder_Extra_169 : Builder.Extra Tryz.prog Tryz.lays169_ren := {
  sizeBuilder := by kernel_rfl
  liesBuilder := by kernel_rfl
  t5 := Tryz.underlying5
  a5 := Tryz.isAgg5
  z5 := Tryz.sizeOf5
  v5 := Tryz.zeroValue5
  infoByte := by kernel_rfl
  cellsByte := by kernel_rfl
  sizeByte := by kernel_rfl
  neB5 := by decide }
open Go.RowKit in
/-- (*strings.Builder).String: "String returns the accumulated string.": WHATEVER THE BUILDER HOLDS. (LAID: no walk: one application.) -/
theorem Tryz.Builder_String_any (B b : Nat) (l : List UInt8) (w : World) (h : Lib.IsBuilder 212 5 B b (Lib.byteCells l) w) (hBw : B ≤ w.heap.size) :
    Calls Tryz.prog 161 #[.pointer (some ⟨b, 0, none⟩)] w fun e w' => e = .returned (.string ⟨l.toArray⟩) ∧ Below B w w' := Any.Builder_String_any Tryz.lays169 Tryz.Builder_Extra_169 B b l w h hBw
def Tryz.lays137_ren : Go.Shelf.Ren := ⟨fun | 137 => 173 | 217 => 203 | 266 => 226 | n => n, fun | 9 => 9 | 5 => 5 | 3 => 3 | n => n, fun | n => n⟩
theorem Tryz.lays137 : Go.Proofs.Lays.n137 Tryz.prog Tryz.lays137_ren := {
  mixed := by kernel_rfl
  f137 := Tryz.func173.trans (congrArg some (by kernel_rfl))
  f217 := Tryz.func203.trans (congrArg some (by kernel_rfl))
  f266 := Tryz.func226.trans (congrArg some (by kernel_rfl))
  t3 := Tryz.underlying3
  a3 := Tryz.isAgg3
  z3 := Tryz.sizeOf3
  v3 := Tryz.zeroValue3
  t5 := Tryz.underlying5
  a5 := Tryz.isAgg5
  z5 := Tryz.sizeOf5
  v5 := Tryz.zeroValue5
  t9 := Tryz.underlying9
  a9 := Tryz.isAgg9
  z9 := Tryz.sizeOf9
  v9 := Tryz.zeroValue9 }
open Go.RowKit in
/-- strings.IndexByte: "IndexByte returns the index of the first instance of c in s, or -1 if c is not present in s.": IT RETURNS 'Lib.indexByte s c'; the world is as it was. (LAID: no walk: one application.) -/
theorem Tryz.strings_IndexByte (s : ByteArray) (c : Int) (w : World) :
    Calls Tryz.prog 173 #[.string s, .int .u8 c] w fun e w' => e = .returned (.int .i64 (Lib.indexByte s.data.toList c.toNat.toUInt8)) ∧ w' = w := Any.strings_IndexByte Tryz.lays137 s c w
def Tryz.lays172_ren : Go.Shelf.Ren := ⟨fun | 172 => 216 | 244 => 241 | 245 => 242 | 247 => 251 | 279 => 252 | 280 => 253 | 281 => 254 | 282 => 255 | 287 => 248 | 316 => 259 | 171 => 100 | 205 => 260 | 321 => 257 | 322 => 258 | 243 => 144 | 246 => 187 | 283 => 212 | 284 => 213 | 285 => 214 | 286 => 215 | 129 => 237 | 317 => 236 | 318 => 238 | 319 => 239 | 320 => 240 | 337 => 249 | 338 => 250 | n => n, fun | 9 => 9 | 3 => 3 | 75 => 214 | 76 => 216 | 4 => 4 | 5 => 5 | 167 => 293 | 37 => 25 | 0 => 0 | 85 => 294 | 2 => 2 | 168 => 296 | 53 => 230 | 175 => 282 | 46 => 287 | 210 => 305 | 127 => 245 | 145 => 309 | 143 => 307 | 21 => 21 | 171 => 258 | 173 => 261 | 212 => 285 | 51 => 48 | 20 => 20 | 213 => 286 | 232 => 302 | 233 => 303 | 80 => 182 | n => n, fun | 15 => 4 | 16 => 5 | 17 => 0 | 18 => 2 | 19 => 3 | n => n⟩
theorem Tryz.lays172 : Go.Proofs.Lays.n172 Tryz.prog Tryz.lays172_ren := {
  mixed := by kernel_rfl
  f129 := Tryz.func237.trans (congrArg some (by kernel_rfl))
  f171 := Tryz.func100.trans (congrArg some (by kernel_rfl))
  f172 := Tryz.func216.trans (congrArg some (by kernel_rfl))
  f205 := Tryz.func260.trans (congrArg some (by kernel_rfl))
  f243 := Tryz.func144.trans (congrArg some (by kernel_rfl))
  f244 := Tryz.func241.trans (congrArg some (by kernel_rfl))
  f245 := Tryz.func242.trans (congrArg some (by kernel_rfl))
  f246 := Tryz.func187.trans (congrArg some (by kernel_rfl))
  f247 := Tryz.func251.trans (congrArg some (by kernel_rfl))
  f279 := Tryz.func252.trans (congrArg some (by kernel_rfl))
  f280 := Tryz.func253.trans (congrArg some (by kernel_rfl))
  f281 := Tryz.func254.trans (congrArg some (by kernel_rfl))
  f282 := Tryz.func255.trans (congrArg some (by kernel_rfl))
  f283 := Tryz.func212.trans (congrArg some (by kernel_rfl))
  f284 := Tryz.func213.trans (congrArg some (by kernel_rfl))
  f285 := Tryz.func214.trans (congrArg some (by kernel_rfl))
  f286 := Tryz.func215.trans (congrArg some (by kernel_rfl))
  f287 := Tryz.func248.trans (congrArg some (by kernel_rfl))
  f316 := Tryz.func259.trans (congrArg some (by kernel_rfl))
  f317 := Tryz.func236.trans (congrArg some (by kernel_rfl))
  f318 := Tryz.func238.trans (congrArg some (by kernel_rfl))
  f319 := Tryz.func239.trans (congrArg some (by kernel_rfl))
  f320 := Tryz.func240.trans (congrArg some (by kernel_rfl))
  f321 := Tryz.func257.trans (congrArg some (by kernel_rfl))
  f322 := Tryz.func258.trans (congrArg some (by kernel_rfl))
  f337 := Tryz.func249.trans (congrArg some (by kernel_rfl))
  f338 := Tryz.func250.trans (congrArg some (by kernel_rfl))
  t0 := Tryz.underlying0
  a0 := Tryz.isAgg0
  z0 := Tryz.sizeOf0
  v0 := Tryz.zeroValue0
  t2 := Tryz.underlying2
  a2 := Tryz.isAgg2
  z2 := Tryz.sizeOf2
  v2 := Tryz.zeroValue2
  t3 := Tryz.underlying3
  a3 := Tryz.isAgg3
  z3 := Tryz.sizeOf3
  v3 := Tryz.zeroValue3
  t4 := Tryz.underlying4
  a4 := Tryz.isAgg4
  z4 := Tryz.sizeOf4
  v4 := Tryz.zeroValue4
  t5 := Tryz.underlying5
  a5 := Tryz.isAgg5
  z5 := Tryz.sizeOf5
  v5 := Tryz.zeroValue5
  t9 := Tryz.underlying9
  a9 := Tryz.isAgg9
  z9 := Tryz.sizeOf9
  v9 := Tryz.zeroValue9
  t20 := Tryz.underlying20
  a20 := Tryz.isAgg20
  z20 := Tryz.sizeOf20
  v20 := Tryz.zeroValue20
  t21 := Tryz.underlying21
  a21 := Tryz.isAgg21
  z21 := Tryz.sizeOf21
  v21 := Tryz.zeroValue21
  t37 := Tryz.underlying25
  a37 := Tryz.isAgg25
  z37 := Tryz.sizeOf25
  v37 := Tryz.zeroValue25
  t46 := Tryz.underlying287
  a46 := Tryz.isAgg287
  z46 := Tryz.sizeOf287
  v46 := Tryz.zeroValue287
  t51 := Tryz.underlying48
  a51 := Tryz.isAgg48
  z51 := Tryz.sizeOf48
  v51 := Tryz.zeroValue48
  t53 := Tryz.underlying230
  a53 := Tryz.isAgg230
  z53 := Tryz.sizeOf230
  v53 := Tryz.zeroValue230
  t75 := Tryz.underlying214
  a75 := Tryz.isAgg214
  z75 := Tryz.sizeOf214
  v75 := Tryz.zeroValue214
  t76 := Tryz.underlying216
  a76 := Tryz.isAgg216
  z76 := Tryz.sizeOf216
  v76 := Tryz.zeroValue216
  t85 := Tryz.underlying294
  a85 := Tryz.isAgg294
  z85 := Tryz.sizeOf294
  v85 := Tryz.zeroValue294
  t127 := Tryz.underlying245
  a127 := Tryz.isAgg245
  z127 := Tryz.sizeOf245
  v127 := Tryz.zeroValue245
  t143 := Tryz.underlying307
  a143 := Tryz.isAgg307
  z143 := Tryz.sizeOf307
  v143 := Tryz.zeroValue307
  t145 := Tryz.underlying309
  a145 := Tryz.isAgg309
  z145 := Tryz.sizeOf309
  v145 := Tryz.zeroValue309
  t167 := Tryz.underlying293
  a167 := Tryz.isAgg293
  z167 := Tryz.sizeOf293
  v167 := Tryz.zeroValue293
  t168 := Tryz.underlying296
  a168 := Tryz.isAgg296
  z168 := Tryz.sizeOf296
  v168 := Tryz.zeroValue296
  t171 := Tryz.underlying258
  a171 := Tryz.isAgg258
  z171 := Tryz.sizeOf258
  v171 := Tryz.zeroValue258
  t173 := Tryz.underlying261
  a173 := Tryz.isAgg261
  z173 := Tryz.sizeOf261
  v173 := Tryz.zeroValue261
  t175 := Tryz.underlying282
  a175 := Tryz.isAgg282
  z175 := Tryz.sizeOf282
  v175 := Tryz.zeroValue282
  t210 := Tryz.underlying305
  a210 := Tryz.isAgg305
  z210 := Tryz.sizeOf305
  v210 := Tryz.zeroValue305
  t212 := Tryz.underlying285
  a212 := Tryz.isAgg285
  z212 := Tryz.sizeOf285
  v212 := Tryz.zeroValue285
  t213 := Tryz.underlying286
  a213 := Tryz.isAgg286
  z213 := Tryz.sizeOf286
  t232 := Tryz.underlying302
  a232 := Tryz.isAgg302
  z232 := Tryz.sizeOf302
  v232 := Tryz.zeroValue302
  t233 := Tryz.underlying303
  a233 := Tryz.isAgg303
  z233 := Tryz.sizeOf303
  v233 := Tryz.zeroValue303
  g15 := by kernel_rfl
  g16 := by kernel_rfl
  g17 := by kernel_rfl
  g18 := by kernel_rfl
  g19 := by kernel_rfl }
open Go.RowKit in
/-- strconv.Atoi: "Atoi is equivalent to ParseInt(s, 10, 0), converted to type int.": AT A DECIMAL NUMERAL OF AT MOST 18 BYTES: its value, and a nil error. The world behind the call: the one new row that the library's '[]byte(s)' lays. (LAID: no walk: one application.) -/
theorem Tryz.strconv_Atoi (s : ByteArray) (n : Int) (hl : s.size ≤ 18) (h : Lib.atoi s.data.toList = some n) (w : World) :
    Calls Tryz.prog 216 #[.string s] w fun e w' => e = .returned (.tuple #[.int .i64 n, .nilIface]) ∧ ∃ t, w' = Lib.bytesWorld w 5 t := Any.strconv_Atoi Tryz.lays172 s n hl h w
def Tryz.laysM246_ren : Go.Shelf.Ren := ⟨fun | 246 => 187 | 283 => 212 | 284 => 213 | 285 => 214 | 286 => 215 | 129 => 237 | 317 => 236 | 318 => 238 | 319 => 239 | 320 => 240 | 337 => 249 | 338 => 250 | n => n, fun | 2 => 2 | 3 => 3 | 9 => 9 | 4 => 4 | 171 => 258 | 0 => 0 | 53 => 230 | 37 => 25 | 5 => 5 | 173 => 261 | 212 => 285 | 51 => 48 | 20 => 20 | 213 => 286 | 46 => 287 | 232 => 302 | 233 => 303 | n => n, fun | 17 => 0 | 18 => 2 | 19 => 3 | n => n⟩
def Tryz.laysM243_ren : Go.Shelf.Ren := ⟨fun | 243 => 144 | 246 => 187 | 283 => 212 | 284 => 213 | 285 => 214 | 286 => 215 | 129 => 237 | 317 => 236 | 318 => 238 | 319 => 239 | 320 => 240 | 337 => 249 | 338 => 250 | n => n, fun | 3 => 3 | 9 => 9 | 2 => 2 | 4 => 4 | 171 => 258 | 0 => 0 | 53 => 230 | 37 => 25 | 5 => 5 | 173 => 261 | 212 => 285 | 51 => 48 | 20 => 20 | 213 => 286 | 46 => 287 | 232 => 302 | 233 => 303 | n => n, fun | 17 => 0 | 18 => 2 | 19 => 3 | n => n⟩
def Tryz.laysM171_ren : Go.Shelf.Ren := ⟨fun | 171 => 100 | 243 => 144 | 246 => 187 | 283 => 212 | 284 => 213 | 285 => 214 | 286 => 215 | 129 => 237 | 317 => 236 | 318 => 238 | 319 => 239 | 320 => 240 | 337 => 249 | 338 => 250 | n => n, fun | 3 => 3 | 9 => 9 | 2 => 2 | 4 => 4 | 171 => 258 | 0 => 0 | 53 => 230 | 37 => 25 | 5 => 5 | 173 => 261 | 212 => 285 | 51 => 48 | 20 => 20 | 213 => 286 | 46 => 287 | 232 => 302 | 233 => 303 | n => n, fun | 17 => 0 | 18 => 2 | 19 => 3 | n => n⟩
theorem Tryz.laysM171 : Go.Proofs.LaysM.n171 Tryz.prog Tryz.laysM171_ren := {
  mixed := by kernel_rfl
  f129 := Tryz.func237.trans (congrArg some (by kernel_rfl))
  f171 := Tryz.func100.trans (congrArg some (by kernel_rfl))
  f243 := Tryz.func144.trans (congrArg some (by kernel_rfl))
  f246 := Tryz.func187.trans (congrArg some (by kernel_rfl))
  f283 := Tryz.func212.trans (congrArg some (by kernel_rfl))
  f284 := Tryz.func213.trans (congrArg some (by kernel_rfl))
  f285 := Tryz.func214.trans (congrArg some (by kernel_rfl))
  f286 := Tryz.func215.trans (congrArg some (by kernel_rfl))
  f317 := Tryz.func236.trans (congrArg some (by kernel_rfl))
  f318 := Tryz.func238.trans (congrArg some (by kernel_rfl))
  f319 := Tryz.func239.trans (congrArg some (by kernel_rfl))
  f320 := Tryz.func240.trans (congrArg some (by kernel_rfl))
  f337 := Tryz.func249.trans (congrArg some (by kernel_rfl))
  f338 := Tryz.func250.trans (congrArg some (by kernel_rfl))
  t0 := Tryz.underlying0
  a0 := Tryz.isAgg0
  z0 := Tryz.sizeOf0
  v0 := Tryz.zeroValue0
  t2 := Tryz.underlying2
  a2 := Tryz.isAgg2
  z2 := Tryz.sizeOf2
  v2 := Tryz.zeroValue2
  t3 := Tryz.underlying3
  a3 := Tryz.isAgg3
  z3 := Tryz.sizeOf3
  v3 := Tryz.zeroValue3
  t4 := Tryz.underlying4
  a4 := Tryz.isAgg4
  z4 := Tryz.sizeOf4
  v4 := Tryz.zeroValue4
  t5 := Tryz.underlying5
  a5 := Tryz.isAgg5
  z5 := Tryz.sizeOf5
  v5 := Tryz.zeroValue5
  t9 := Tryz.underlying9
  a9 := Tryz.isAgg9
  z9 := Tryz.sizeOf9
  v9 := Tryz.zeroValue9
  t20 := Tryz.underlying20
  a20 := Tryz.isAgg20
  z20 := Tryz.sizeOf20
  v20 := Tryz.zeroValue20
  t37 := Tryz.underlying25
  a37 := Tryz.isAgg25
  z37 := Tryz.sizeOf25
  v37 := Tryz.zeroValue25
  t46 := Tryz.underlying287
  a46 := Tryz.isAgg287
  z46 := Tryz.sizeOf287
  v46 := Tryz.zeroValue287
  t51 := Tryz.underlying48
  a51 := Tryz.isAgg48
  z51 := Tryz.sizeOf48
  v51 := Tryz.zeroValue48
  t53 := Tryz.underlying230
  a53 := Tryz.isAgg230
  z53 := Tryz.sizeOf230
  v53 := Tryz.zeroValue230
  t171 := Tryz.underlying258
  a171 := Tryz.isAgg258
  z171 := Tryz.sizeOf258
  v171 := Tryz.zeroValue258
  t173 := Tryz.underlying261
  a173 := Tryz.isAgg261
  z173 := Tryz.sizeOf261
  v173 := Tryz.zeroValue261
  t212 := Tryz.underlying285
  a212 := Tryz.isAgg285
  z212 := Tryz.sizeOf285
  v212 := Tryz.zeroValue285
  t213 := Tryz.underlying286
  a213 := Tryz.isAgg286
  z213 := Tryz.sizeOf286
  t232 := Tryz.underlying302
  a232 := Tryz.isAgg302
  z232 := Tryz.sizeOf302
  v232 := Tryz.zeroValue302
  t233 := Tryz.underlying303
  a233 := Tryz.isAgg303
  z233 := Tryz.sizeOf303
  v233 := Tryz.zeroValue303
  g17 := by kernel_rfl
  g18 := by kernel_rfl
  g19 := by kernel_rfl
  i0 := by kernel_rfl
  i2 := by kernel_rfl
  i3 := by kernel_rfl
  i4 := by kernel_rfl
  i5 := by kernel_rfl
  i9 := by kernel_rfl
  i20 := by kernel_rfl
  i37 := by kernel_rfl
  i46 := by kernel_rfl
  i51 := by kernel_rfl
  i53 := by kernel_rfl
  i171 := by kernel_rfl
  i173 := by kernel_rfl
  i212 := by kernel_rfl
  i232 := by kernel_rfl
  i233 := by kernel_rfl
  m17 := by kernel_rfl
  m18 := by kernel_rfl
  m19 := by kernel_rfl }
open Go.RowKit Go.Sort Go.Lib in
/-- strconv.Itoa: "Itoa is equivalent to FormatInt(int64(i), 10).": i's DECIMAL NUMERAL ('Lib.itoa': a '-' where i is negative, then the digits), FOR EVERY int. The world behind the call: the world before it, new blocks behind the heap (the library's 'var a [24]byte'), draws. (LAID: no walk: one application.) -/
theorem Tryz.strconv_Itoa (n : Int) (h0 : -9223372036854775808 ≤ n) (h1 : n ≤ 9223372036854775807) (w : World) (htab : Lib.TabIs Tryz.prog w "internal/strconv.uint64pow10" .u64 Lib.pow10Tab) :
    Calls Tryz.prog 100 #[.int .i64 n] w fun e w' => e = .returned (.string ⟨(Lib.itoa n).toArray⟩) ∧ ∃ k os, w' = grow (w.drewN k) os := Any.strconv_Itoa Tryz.laysM171 n h0 h1 w htab
end Go.Proofs
/-! LexG -/
namespace Go.Proofs.YtiledamgmppcmaaGreatDoor
open Go.RowKit

def rdCells (s : ByteArray) (k : Int) : Array Value := #[.string s, .int .i64 k, .func (.func 172) #[.agg #[.int .u8 97, .int .u8 122]] #[], .func (.func 172) #[.agg #[.int .u8 48, .int .u8 57]] #[], .func (.func 172) #[.agg #[.int .u8 95, .int .u8 95]] #[]]
/-- The reader lies in block b. -/
def RdAt (w : World) (b : Nat) (s : ByteArray) (k : Int) : Prop := w.heap[b]? = some (.cells (rdCells s k) 193 (0, 0))

theorem cell_of_blk {w : World} {b : Nat} {C : Array Value} {t : TypeId} {fr : Nat × Nat} (h : w.heap[b]? = some (.cells C t fr)) (i : Nat) : w.cell? ⟨b, i, none⟩ = C[i]? := by
  simp [World.cell?, h]
theorem frozen_of_blk {w : World} {b : Nat} {C : Array Value} {t : TypeId} (h : w.heap[b]? = some (.cells C t (0, 0))) (i : Nat) : w.frozen? ⟨b, i, none⟩ = false := by
  simp [World.frozen?, h]
theorem lt_of_blk {w : World} {b : Nat} {o : Obj} (h : w.heap[b]? = some o) : b < w.heap.size := by
  rcases Nat.lt_or_ge b w.heap.size with h1 | h1
  · exact h1
  · rw [Array.getElem?_eq_none h1] at h; cases h

theorem RdAt.cells {w : World} {b : Nat} {s : ByteArray} {k : Int} (h : RdAt w b s k) :
    w.cell? ⟨b, 0, none⟩ = some (.string s) ∧ w.cell? ⟨b, 1, none⟩ = some (.int .i64 k) ∧ w.frozen? ⟨b, 1, none⟩ = false :=
  ⟨cell_of_blk h 0, cell_of_blk h 1, frozen_of_blk h 1⟩
theorem RdAt.tests {w : World} {b : Nat} {s : ByteArray} {k : Int} (h : RdAt w b s k) :
    w.cell? ⟨b, 2, none⟩ = some (.func (.func 172) #[.agg #[.int .u8 97, .int .u8 122]] #[]) ∧ w.cell? ⟨b, 3, none⟩ = some (.func (.func 172) #[.agg #[.int .u8 48, .int .u8 57]] #[]) ∧ w.cell? ⟨b, 4, none⟩ = some (.func (.func 172) #[.agg #[.int .u8 95, .int .u8 95]] #[]) :=
  ⟨cell_of_blk h 2, cell_of_blk h 3, cell_of_blk h 4⟩
theorem RdAt.below {W w1 : World} {b : Nat} {s : ByteArray} {k : Int} (hb : Below W.heap.size W w1) (h : RdAt W b s k) : RdAt w1 b s k := (hb.block b (lt_of_blk h)).trans h
theorem RdAt.set {w : World} {b : Nat} {s : ByteArray} {k : Int} (h : RdAt w b s k) (k' : Int) : RdAt (w.setCell ⟨b, 1, none⟩ (.int .i64 k')) b s k' := by
  have h' := h
  unfold RdAt at h h' ⊢
  simp only [World.setCell, Array.getElem?_modify, h', if_true, Option.map_some]
  rfl
/-- Of the old blocks only b may have changed. -/
theorem only_below {a w w1 : World} {b : Nat} (h : a.grownBy w (some b)) (hb : Below w.heap.size w w1) : a.grownBy w1 (some b) :=
  ⟨hb.os.trans h.os, hb.tape.trans h.tape, hb.output.trans h.output, Nat.le_trans h.size hb.size, fun i hi hn => (hb.block i (Nat.lt_of_lt_of_le hi h.size)).trans (h.block i hi hn)⟩
theorem only_set {a w : World} {b : Nat} (h : a.grownBy w (some b)) (o : Nat) (u : Value) : a.grownBy (w.setCell ⟨b, o, none⟩ u) (some b) :=
  ⟨h.os, h.tape, h.output, by simpa [World.setCell] using h.size, fun i hi hne => (Below.heap_setCell w ⟨b, o, none⟩ u i (by rintro rfl; exact hne rfl)).trans (h.block i hi hne)⟩
theorem only_refl (w : World) (r : Option Nat) : w.grownBy w r := World.grownBy.refl w _
/-- Where the reader stands. -/
def posOf (w : World) (b : Nat) : Nat := match w.cell? ⟨b, 1, none⟩ with | some (.int _ n) => n.toNat | _ => 0
theorem posOf_eq {w : World} {b : Nat} {s : ByteArray} {k : Nat} (h : RdAt w b s k) : posOf w b = k := by
  unfold posOf; rw [h.cells.2.1]; simp

set_option maxHeartbeats 1000000 in
theorem part_rd (b : Nat) (s : ByteArray) (k : Int) (c : UInt8) (w : World) (hR : RdAt w b s k) :
    Calls Tryz.prog 174 #[.pointer (some ⟨b, 0, none⟩), .int .u8 (c.toNat : Int)] w fun e w' => e = .returned (.bool (partB c)) ∧ Below w.heap.size w w' := by
  obtain ⟨t0, t1, t2⟩ := hR.tests
  have hcase : (97 ≤ (c.toNat : Int) ∧ (c.toNat : Int) ≤ 122) ∨ ((c.toNat : Int) < 97 ∨ 122 < (c.toNat : Int)) := by omega
  have hcase2 : (48 ≤ (c.toNat : Int) ∧ (c.toNat : Int) ≤ 57) ∨ ((c.toNat : Int) < 48 ∨ 57 < (c.toNat : Int)) := by omega
  have hcase3 : (95 ≤ (c.toNat : Int) ∧ (c.toNat : Int) ≤ 95) ∨ ((c.toNat : Int) < 95 ∨ 95 < (c.toNat : Int)) := by omega
  have hlt := lt_of_blk hR
  rcases hcase with hc | hc
  · have HF : Hid (partB c = true) := Lib.hid (by simp [partB, letterB_of hc])
    go_enter Tryz.func174, Tryz.ntmps174
    go_wp2_with (go_at_call 172; refine (has_yes _ _ _ _ (by omega)).mono ?_; rintro e w1 ⟨rfl, hb1⟩)
    go_ret
    exact ⟨ret_bool HF.out.symm, hb1⟩
  · rcases hcase2 with hd | hd
    · have HF : Hid (partB c = true) := Lib.hid (by simp [partB, digitB_of hd])
      go_enter Tryz.func174, Tryz.ntmps174
      go_wp2_with fail
      refine (has_no _ _ _ _ (by omega)).mono ?_
      rintro e w1 ⟨rfl, hb1⟩
      have u1 := below_cell hb1 t1
      go_wp2_with fail
      refine (has_yes _ _ _ _ (by omega)).mono ?_
      rintro e w2 ⟨rfl, hb2⟩
      go_wp2
      go_ret
      exact ⟨ret_bool HF.out.symm, hb1.trans (hb2.mono hb1.size)⟩
    · rcases hcase3 with hu | hu
      · have HF : Hid (partB c = true) := Lib.hid (by simp [partB, underB_of hu])
        go_enter Tryz.func174, Tryz.ntmps174
        go_wp2_with fail
        refine (has_no _ _ _ _ (by omega)).mono ?_
        rintro e w1 ⟨rfl, hb1⟩
        have u1 := below_cell hb1 t1
        have u2 := below_cell hb1 t2
        go_wp2_with fail
        refine (has_no _ _ _ _ (by omega)).mono ?_
        rintro e w2 ⟨rfl, hb2⟩
        have v2 := below_cell hb2 u2
        go_wp2_with fail
        refine (has_yes _ _ _ _ (by omega)).mono ?_
        rintro e w3 ⟨rfl, hb3⟩
        go_wp2
        go_ret
        have h2 := hb1.trans (hb2.mono hb1.size)
        exact ⟨ret_bool HF.out.symm, h2.trans (hb3.mono h2.size)⟩
      · have HF : Hid (partB c = false) := Lib.hid (by simp [partB, letterB_not hc, digitB_not hd, underB_not hu])
        go_enter Tryz.func174, Tryz.ntmps174
        go_wp2_with fail
        refine (has_no _ _ _ _ (by omega)).mono ?_
        rintro e w1 ⟨rfl, hb1⟩
        have u1 := below_cell hb1 t1
        have u2 := below_cell hb1 t2
        go_wp2_with fail
        refine (has_no _ _ _ _ (by omega)).mono ?_
        rintro e w2 ⟨rfl, hb2⟩
        have v2 := below_cell hb2 u2
        go_wp2_with fail
        refine (has_no _ _ _ _ (by omega)).mono ?_
        rintro e w3 ⟨rfl, hb3⟩
        go_wp2
        go_ret
        have h2 := hb1.trans (hb2.mono hb1.size)
        exact ⟨ret_bool HF.out.symm, h2.trans (hb3.mono h2.size)⟩
end Go.Proofs.YtiledamgmppcmaaGreatDoor
/-! LexH -/
namespace Go.Proofs.YtiledamgmppcmaaGreatDoor
open Go.RowKit

theorem byte_ne {a b : UInt8} (h : a ≠ b) : ((a.toNat : Int) == (b.toNat : Int)) = false := by rw [byte_beq]; exact beq_eq_false_iff_ne.2 h
theorem skip_end {l : List UInt8} {k : Nat} (h : l.length ≤ k) : skipF false (l.drop k) = l.drop k := by
  rw [List.drop_eq_nil_of_le h]; rfl

theorem posOf_set {w : World} {b : Nat} {s : ByteArray} {k : Int} (h : RdAt w b s k) (n : Int) : posOf (w.setCell ⟨b, 1, none⟩ (.int .i64 n)) b = n.toNat := by
  unfold posOf; rw [(h.set n).cells.2.1]
theorem index_nl (s : ByteArray) (k : Nat) (j : Int) (w : World) (hj : Lib.indexByte (s.data.toList.drop k) 10 = j) :
    Calls Tryz.prog 173 #[.string (s.extract k s.size), .int .u8 10] w fun e w' => e = .returned (.int .i64 j) ∧ Below w.heap.size w w' :=
  (Tryz.strings_IndexByte (s.extract k s.size) 10 w).mono fun e w' ⟨he, hw⟩ => ⟨by rw [he, Lib.extract_to_end, ← hj]; rfl, by rw [hw]; exact Below.refl _ _⟩

def SkipPost (b : Nat) (s : ByteArray) (k : Nat) (w : World) (e : Ending) (w' : World) : Prop :=
  e = .returned (.tuple #[]) ∧ RdAt w' b s (skipN s.data.toList k) ∧ w.grownBy w' (some b)
def SkipRel (b : Nat) (s : ByteArray) (k : Nat) (w : World) (wr : World) : Prop :=
  ∃ k' : Nat, k ≤ k' ∧ k' ≤ s.size ∧ RdAt wr b s k' ∧ skipF false (s.data.toList.drop k') = skipF false (s.data.toList.drop k) ∧ w.grownBy wr (some b)

set_option maxRecDepth 100000 in
set_option maxHeartbeats 4000000 in
theorem skip_any (b : Nat) (s : ByteArray) (k : Nat) (w : World) (hs : s.size ≤ 1000000) (hk : k ≤ s.size) (hR : RdAt w b s k) :
    Calls Tryz.prog 131 #[.pointer (some ⟨b, 0, none⟩)] w (SkipPost b s k w) := by
  have hstart : SkipRel b s k w w := ⟨k, Nat.le_refl _, hk, hR, rfl, only_refl _ _⟩
  have HS := Lib.hid hstart
  clear hR hk hstart
  go_enter Tryz.func131, Tryz.ntmps131
  go_wp2
  go_loopw [2] (fun _ wr => SkipRel b s k w wr) (fun _ wr => s.size - posOf wr b)
  case atStart => exact HS.out
  case round =>
    clear HS
    obtain ⟨k', hk1, hk2, hR, hsk, hO⟩ := hrel
    have HK := Lib.hid hsk
    have HR := Lib.hid hR
    have HP := Lib.hid (posOf_eq hR)
    have c0 : ∀ x : Later wr, x.world.cell? ⟨b, 0, none⟩ = some (.string s) := later_cell hR.cells.1
    have c1 : ∀ x : Later wr, x.world.cell? ⟨b, 1, none⟩ = some (.int .i64 (k' : Int)) := later_cell hR.cells.2.1
    clear hsk hR
    by_cases hlt : k' < s.size
    · go_wp2_with fail
      refine wp_region_later (by kernel_rfl) (by kernel_rfl) ?_
      repeat (go_big_quiet_step (fail))
      refine wpQuiet_nil ?_
      intro w1 hb1
      have HR1 := Lib.hid (HR.out.below hb1)
      clear c0 c1
      have d0 : ∀ x : Later w1, x.world.cell? ⟨b, 0, none⟩ = some (.string s) := later_cell HR1.out.cells.1
      have d1 : ∀ x : Later w1, x.world.cell? ⟨b, 1, none⟩ = some (.int .i64 (k' : Int)) := later_cell HR1.out.cells.2.1
      go_wp2_with fail
      refine wp_region_later (by kernel_rfl) (by kernel_rfl) ?_
      repeat (go_big_quiet_step (fail))
      refine wpQuiet_nil ?_
      intro w2 hb2
      have HR2 := Lib.hid (HR1.out.below hb2)
      have HO2 : Hid (w.grownBy w2 (some b)) := Lib.hid (only_below (only_below hO hb1) hb2)
      clear d0 d1 HR HR1 hb1 hb2 hO
      have e0 := HR2.out.cells.1
      have e1 := HR2.out.cells.2.1
      have e2 := HR2.out.cells.2.2
      have hl : k' < s.data.toList.length := by simpa using hlt
      have g1 : (k' : Int) + 1 ≤ 9223372036854775807 := by omega
      by_cases h32 : s[k'] = 32
      · have f1 : ((s[k'].toNat : Int) == 32) = true := by rw [h32]; rfl
        have HN : Hid (skipF false (s.data.toList.drop (k' + 1)) = skipF false (s.data.toList.drop k)) := Lib.hid ((skip_blank hl (.inl h32)).symm.trans HK.out)
        clear h32
        go_wp2
        go_roundw
        case rel => exact ⟨k' + 1, by omega, by omega, HR2.out.set _, HN.out, only_set HO2.out _ _⟩
        case measure => rw [posOf_set HR2.out, HP.out]; omega
      · have f1 : ((s[k'].toNat : Int) == 32) = false := byte_ne h32
        by_cases h10 : s[k'] = 10
        · have f2 : ((s[k'].toNat : Int) == 10) = true := by rw [h10]; rfl
          have HN : Hid (skipF false (s.data.toList.drop (k' + 1)) = skipF false (s.data.toList.drop k)) := Lib.hid ((skip_blank hl (.inr h10)).symm.trans HK.out)
          clear h32 h10
          go_wp2
          go_roundw
          case rel => exact ⟨k' + 1, by omega, by omega, HR2.out.set _, HN.out, only_set HO2.out _ _⟩
          case measure => rw [posOf_set HR2.out, HP.out]; omega
        · have f2 : ((s[k'].toNat : Int) == 10) = false := byte_ne h10
          by_cases h35 : s[k'] = 35
          · have f3 : ((s[k'].toNat : Int) == 35) = true := by rw [h35]; rfl
            have HC := Lib.hid h35
            clear h32 h10 h35
            obtain ⟨j, hj⟩ : ∃ j, Lib.indexByte (s.data.toList.drop k') 10 = j := ⟨_, rfl⟩
            have HJ := Lib.hid hj
            clear hj
            have d0 : ∀ x : Later w2, x.world.cell? ⟨b, 0, none⟩ = some (.string s) := later_cell HR2.out.cells.1
            have d1 : ∀ x : Later w2, x.world.cell? ⟨b, 1, none⟩ = some (.int .i64 (k' : Int)) := later_cell HR2.out.cells.2.1
            go_wp2_with fail
            refine wp_region_later (by kernel_rfl) (by kernel_rfl) ?_
            repeat (go_big_quiet_step ((go_at_call 173; exact Calls.later_of (index_nl _ _ _ _ HJ.out))))
            refine wpQuiet_nil ?_
            intro w3 hb3
            have HR3 := Lib.hid (HR2.out.below hb3)
            have HO3 : Hid (w.grownBy w3 (some b)) := Lib.hid (only_below HO2.out hb3)
            clear d0 d1 e0 e1 e2 HO2 hb3
            by_cases hneg : j < 0
            · have HN : Hid (skipF false (s.data.toList.drop s.size) = skipF false (s.data.toList.drop k)) := Lib.hid (by
                have h := skip_comment_none hl HC.out (indexByte_neg (by rw [HJ.out]; exact hneg))
                have e : s.data.toList.length = s.size := by simp
                rw [e] at h
                exact h.symm.trans HK.out)
              have d0 : ∀ x : Later w3, x.world.cell? ⟨b, 0, none⟩ = some (.string s) := later_cell HR3.out.cells.1
              have d1 : ∀ x : Later w3, x.world.cell? ⟨b, 1, none⟩ = some (.int .i64 (k' : Int)) := later_cell HR3.out.cells.2.1
              go_wp2_with fail
              refine wp_region_later (by kernel_rfl) (by kernel_rfl) ?_
              repeat (go_big_quiet_step (fail))
              refine wpQuiet_nil ?_
              intro w4 hb4
              have HR4 := Lib.hid (HR3.out.below hb4)
              have HO4 : Hid (w.grownBy w4 (some b)) := Lib.hid (only_below HO3.out hb4)
              clear d0 d1 hb4 HO3 HR3 HR2
              have e0 := HR4.out.cells.1
              have e1 := HR4.out.cells.2.1
              have e2 := HR4.out.cells.2.2
              have hz : (k' : Int) + ((s.size : Int) - (k' : Int)) = s.size := by omega
              go_wp2
              go_roundw
              case rel => exact ⟨s.size, by omega, by omega, HR4.out.set _, HN.out, only_set HO4.out _ _⟩
              case measure => rw [posOf_set HR4.out, HP.out]; omega
            · have hx := skip_comment_some hl HC.out (by rw [HJ.out]; exact hneg)
              obtain ⟨jn, hj1, hj2, hj3, hj4⟩ := hx
              have HN := Lib.hid (hj4.symm.trans HK.out)
              have hj5 : s.data.toList.length = s.size := by simp
              rw [hj5] at hj3
              have HE : Hid (j = jn) := Lib.hid (HJ.out.symm.trans hj1)
              have hb1 : (k' : Int) + j < s.size := by have := HE.out; omega
              have hb2 : 0 < j := by have := HE.out; omega
              have HT : Hid ((k' : Int) + j = ((k' + jn : Nat) : Int)) := Lib.hid (by have := HE.out; omega)
              clear hj1 hj4 hj5 HJ
              have e0 := HR3.out.cells.1
              have e1 := HR3.out.cells.2.1
              have e2 := HR3.out.cells.2.2
              go_wp2
              go_roundw
              case rel => exact ⟨k' + jn, by omega, by omega, by rw [HT.out]; exact HR3.out.set _, HN.out, only_set HO3.out _ _⟩
              case measure => rw [posOf_set HR3.out, HP.out]; omega
          · have f3 : ((s[k'].toNat : Int) == 35) = false := byte_ne h35
            have HN : Hid (skipN s.data.toList k = k') := Lib.hid (skipN_of HK.out (skip_other hl h32 h10 h35) (by omega))
            clear h32 h10 h35
            go_wp2
            go_end0
            exact ⟨rfl, by rw [HN.out]; exact HR2.out, HO2.out⟩
    · have HN : Hid (skipN s.data.toList k = k') := Lib.hid (skipN_of HK.out (skip_end (by simp; omega)) (by simp; omega))
      go_wp2_with fail
      refine wp_region_later (by kernel_rfl) (by kernel_rfl) ?_
      repeat (go_big_quiet_step (fail))
      refine wpQuiet_nil ?_
      intro w1 hb1
      go_wp2
      go_end0
      exact ⟨rfl, by rw [HN.out]; exact HR.out.below hb1, only_below hO hb1⟩
end Go.Proofs.YtiledamgmppcmaaGreatDoor
/-! LexP -/
namespace Go.Proofs.YtiledamgmppcmaaGreatDoor
open Go.RowKit

structure Tok where
  kind : Int
  text : List UInt8
  pos : Nat
deriving DecidableEq

/-- The tokens of a text, an index and an error; n: the length of the whole text. -/
def scanG (n : Nat) : Nat → List UInt8 → List Tok → List Tok × Nat × Int
  | 0, _, acc => (acc, 0, 0)
  | f + 1, l, acc =>
    if skipF false l = [] then (acc, 0, 0)
    else if rightB (oneT (skipF false l)).1 (oneT (skipF false l)).2 = false then ([], n - (skipF false l).length, 340)
    else if acc.length = 2000 then ([], n - (skipF false l).length, 3)
    else scanG n f ((skipF false l).drop (oneT (skipF false l)).2.length) (acc ++ [⟨(oneT (skipF false l)).1, (oneT (skipF false l)).2, n - (skipF false l).length⟩])

def scanT (l : List UInt8) : List Tok × Nat × Int := if 20000 < l.length then ([], 0, 3) else scanG l.length (l.length + 1) l []

theorem skipF_skip (b : Bool) (l : List UInt8) : skipF false (skipF b l) = skipF b l := by
  induction l generalizing b with
  | nil => cases b <;> simp [skipF]
  | cons c t ih =>
    cases b
    · simp only [skipF]
      split
      · exact ih false
      · split
        · exact ih true
        · rename_i h1 h2
          simp [skipF, h1, h2]
    · simp only [skipF]
      split
      · exact ih false
      · exact ih true

theorem scanG_skip (n f : Nat) (l : List UInt8) (acc : List Tok) : scanG n (f + 1) (skipF false l) acc = scanG n (f + 1) l acc := by
  simp only [scanG, skipF_skip]

theorem rightB_ne {kd : Int} {tx : List UInt8} (h : rightB kd tx = true) : tx ≠ [] := by
  rintro rfl
  unfold rightB at h
  split at h
  · simp [nameB, wordB] at h
  · split at h
    · revert h; decide
    · split at h
      · revert h; decide
      · split at h
        · revert h; decide
        · cases h

/-- One step of a scan, at a token. -/
theorem scanG_bad {n f : Nat} {l : List UInt8} {acc : List Tok} (hs : skipF false l = l) (hl : l ≠ []) (h : rightB (oneT l).1 (oneT l).2 = false) : scanG n (f + 1) l acc = ([], n - l.length, 340) := by
  rw [scanG, hs, if_neg hl, if_pos h]
theorem scanG_full {n f : Nat} {l : List UInt8} {acc : List Tok} (hs : skipF false l = l) (hl : l ≠ []) (h : rightB (oneT l).1 (oneT l).2 = true) (ha : acc.length = 2000) : scanG n (f + 1) l acc = ([], n - l.length, 3) := by
  rw [scanG, hs, if_neg hl, if_neg (by rw [h]; simp), if_pos ha]
theorem scanG_next {n f : Nat} {l : List UInt8} {acc : List Tok} (hs : skipF false l = l) (hl : l ≠ []) (h : rightB (oneT l).1 (oneT l).2 = true) (ha : acc.length ≠ 2000) :
    scanG n (f + 1) l acc = scanG n f (l.drop (oneT l).2.length) (acc ++ [⟨(oneT l).1, (oneT l).2, n - l.length⟩]) := by
  rw [scanG, hs, if_neg hl, if_neg (by rw [h]; simp), if_neg ha]
theorem scanG_end {n f : Nat} {acc : List Tok} : scanG n (f + 1) [] acc = (acc, 0, 0) := by
  rw [scanG]; simp [skipF]

def bytesOf (l : List UInt8) : ByteArray := ⟨l.toArray⟩
theorem bytesOf_list (s : ByteArray) : bytesOf s.data.toList = s := by
  apply ByteArray.ext; simp [bytesOf]
theorem list_bytesOf (l : List UInt8) : (bytesOf l).data.toList = l := by simp [bytesOf]
theorem eq_bytesOf {s : ByteArray} {l : List UInt8} (h : s.data.toList = l) : s = bytesOf l := by rw [← h, bytesOf_list]
def Tok.cells (t : Tok) : List Value := [.int .i64 t.kind, .string (bytesOf t.text), .int .i64 (t.pos : Int)]
def Tok.val (t : Tok) : Value := .agg #[.int .i64 t.kind, .string (bytesOf t.text), .int .i64 (t.pos : Int)]
def tokCells (l : List Tok) : List Value := l.flatMap Tok.cells
theorem tokCells_snoc (l : List Tok) (t : Tok) : tokCells (l ++ [t]) = tokCells l ++ t.cells := by simp [tokCells]
end Go.Proofs.YtiledamgmppcmaaGreatDoor
/-! LexQ -/
namespace Go.Proofs.YtiledamgmppcmaaGreatDoor
open Go.RowKit

end Go.Proofs.YtiledamgmppcmaaGreatDoor
/-! Tail -/
namespace Go.Proofs.YtiledamgmppcmaaGreatDoor
open Go.RowKit

section
variable {P : Program} {ops : Array Oper} {md : Region.Mode} {C : World → Prop}

end
end Go.Proofs.YtiledamgmppcmaaGreatDoor
/-! LexI -/
namespace Go.Proofs.YtiledamgmppcmaaGreatDoor
open Go.RowKit

theorem drop_at {s : ByteArray} {k e : Nat} (h : e < s.size) (hk : k ≤ e) {h' : e - k < (s.data.toList.drop k).length} : (s.data.toList.drop k)[e - k] = s[e] := by
  rw [List.getElem_drop]
  simp only [show k + (e - k) = e from by omega]
  rfl
/-- A token lies in block t. -/
def TokAt (w : World) (t : Nat) (kd : Int) (tx : ByteArray) (k : Int) : Prop := w.heap[t]? = some (.cells #[.int .i64 kd, .string tx, .int .i64 k] 47 (0, 0))
theorem TokAt.cells {w : World} {t : Nat} {kd k : Int} {tx : ByteArray} (h : TokAt w t kd tx k) :
    w.cell? ⟨t, 0, none⟩ = some (.int .i64 kd) ∧ w.cell? ⟨t, 1, none⟩ = some (.string tx) ∧ w.cell? ⟨t, 2, none⟩ = some (.int .i64 k) :=
  ⟨cell_of_blk h 0, cell_of_blk h 1, cell_of_blk h 2⟩
theorem TokAt.free {w : World} {t : Nat} {kd k : Int} {tx : ByteArray} (h : TokAt w t kd tx k) :
    w.frozen? ⟨t, 0, none⟩ = false ∧ w.frozen? ⟨t, 1, none⟩ = false ∧ w.frozen? ⟨t, 2, none⟩ = false :=
  ⟨frozen_of_blk h 0, frozen_of_blk h 1, frozen_of_blk h 2⟩
theorem TokAt.below {W w1 : World} {t : Nat} {kd k : Int} {tx : ByteArray} (hb : Below W.heap.size W w1) (h : TokAt W t kd tx k) : TokAt w1 t kd tx k := (hb.block t (lt_of_blk h)).trans h

theorem tok_new (w : World) (kd : Int) (tx : ByteArray) (k : Int) : TokAt (w.alloc (.cells #[.int .i64 kd, .string tx, .int .i64 k] 47)) w.heap.size kd tx k := heap_alloc_new w _
theorem has_letter (c : UInt8) (w : World) : Calls Tryz.prog 172 #[.agg #[.int .u8 97, .int .u8 122], .int .u8 (c.toNat : Int)] w fun e w' => e = .returned (.bool (letterB c)) ∧ Below w.heap.size w w' :=
  (has_any 97 122 _ w).mono fun e w' ⟨he, hw⟩ => ⟨he, by rw [← hw]; exact (Below.refl _ _).alloc (Nat.le_refl _) _⟩
theorem has_digit (c : UInt8) (w : World) : Calls Tryz.prog 172 #[.agg #[.int .u8 48, .int .u8 57], .int .u8 (c.toNat : Int)] w fun e w' => e = .returned (.bool (digitB c)) ∧ Below w.heap.size w w' :=
  (has_any 48 57 _ w).mono fun e w' ⟨he, hw⟩ => ⟨he, by rw [← hw]; exact (Below.refl _ _).alloc (Nat.le_refl _) _⟩

theorem TokAt.set0 {w : World} {t : Nat} {kd k : Int} {tx : ByteArray} (h : TokAt w t kd tx k) (kd' : Int) : TokAt (w.setCell ⟨t, 0, none⟩ (.int .i64 kd')) t kd' tx k := by
  have h' := h
  unfold TokAt at h h' ⊢
  simp only [World.setCell, Array.getElem?_modify, h', if_true, Option.map_some]
  rfl
theorem TokAt.set1 {w : World} {t : Nat} {kd k : Int} {tx : ByteArray} (h : TokAt w t kd tx k) (tx' : ByteArray) : TokAt (w.setCell ⟨t, 1, none⟩ (.string tx')) t kd tx' k := by
  have h' := h
  unfold TokAt at h h' ⊢
  simp only [World.setCell, Array.getElem?_modify, h', if_true, Option.map_some]
  rfl
/-- What is known of a world, in the world's place. -/
theorem wp_world {P : Program} {c : Code} {Q : Exit → Act → World → Prop} {a : Act} {W : World} (F : World → Prop) (h : F W) (k : ∀ w', F w' → c.wp P Q a w') : c.wp P Q a W := k W h

theorem words_cells_d (w : World) (j : Nat) (h : j < 23) : (w.alloc (.cells wordCells 9)).drew.cell? ⟨w.heap.size, j, none⟩ = some (.string (wordList.getD j ByteArray.empty)) := words_cells w j h
theorem signs_cells_d (w : World) (j : Nat) (h : j < 21) : (w.alloc (.cells signCells 9)).drew.cell? ⟨w.heap.size, j, none⟩ = some (.string (signList.getD j ByteArray.empty)) := signs_cells w j h

theorem oneT_letter {s : ByteArray} {k : Nat} (hk : k < s.size) (h : letterB s[k] = true) :
    oneT (s.data.toList.drop k) = (if memL wordBytes ((s.data.toList.drop k).takeWhile partB) then 2 else 1, (s.data.toList.drop k).takeWhile partB) := by
  have hh : (s.data.toList.drop k).head? = some s[k] := by rw [List.head?_drop, List.getElem?_eq_getElem (by simpa using hk)]; rfl
  rw [oneT, hh, if_pos (by simpa using h)]
theorem oneT_digit {s : ByteArray} {k : Nat} (hk : k < s.size) (h : letterB s[k] = false) (h2 : digitB s[k] = true) :
    oneT (s.data.toList.drop k) = (3, (s.data.toList.drop k).takeWhile partB) := by
  have hh : (s.data.toList.drop k).head? = some s[k] := by rw [List.head?_drop, List.getElem?_eq_getElem (by simpa using hk)]; rfl
  rw [oneT, hh, if_neg (by simp [h]), if_pos (by simpa using h2)]
theorem oneT_sign {s : ByteArray} {k : Nat} (hk : k < s.size) (h : letterB s[k] = false) (h2 : digitB s[k] = false) :
    oneT (s.data.toList.drop k) = (4, if memL signBytes ((s.data.toList.drop k).take 2) then (s.data.toList.drop k).take 2 else (s.data.toList.drop k).take 1) := by
  have hh : (s.data.toList.drop k).head? = some s[k] := by rw [List.head?_drop, List.getElem?_eq_getElem (by simpa using hk)]; rfl
  rw [oneT, hh, if_neg (by simp [h]), if_neg (by simp [h2])]

theorem extract_two {s : ByteArray} {k : Nat} (hk : k < s.size) : (s.extract k (min ((k : Int) + 2) s.size).toNat).data.toList = (s.data.toList.drop k).take 2 := by
  rw [extract_list]
  show (s.data.toList.drop k).take _ = _
  rcases Nat.lt_or_ge s.size (k + 2) with h | h
  · rw [List.take_of_length_le (by simp; omega), List.take_of_length_le (by simp; omega)]
  · rw [show (min ((k : Int) + 2) s.size).toNat - k = 2 from by omega]
theorem two_size {s x : ByteArray} {k : Nat} (hk : k < s.size) (h : x.data.toList = (s.data.toList.drop k).take 2) : 1 ≤ x.size := by
  have h1 : x.data.toList.length = x.size := by simp
  rw [h] at h1
  simp at h1
  omega

theorem one_size {s tx : ByteArray} {k : Nat} (h : tx.data.toList = (oneT (s.data.toList.drop k)).2) : tx.size ≤ s.size - k := by
  have h1 : tx.data.toList.length = tx.size := by simp
  have h2 : (oneT (s.data.toList.drop k)).2.length ≤ (s.data.toList.drop k).length := by
    have h3 : ((s.data.toList.drop k).takeWhile partB).length ≤ (s.data.toList.drop k).length := (List.takeWhile_sublist _).length_le
    have h4 : ∀ n, ((s.data.toList.drop k).take n).length ≤ (s.data.toList.drop k).length := fun n => List.length_take_le' _ _
    unfold oneT
    split
    · exact h3
    · split
      · exact h3
      · split
        · exact h4 2
        · exact h4 1
  rw [← h, h1] at h2
  simpa using h2

def CutRel (s : ByteArray) (k : Nat) (w1 w' : World) : Prop :=
  ∃ tx : ByteArray, TokAt w' w1.heap.size (oneT (s.data.toList.drop k)).1 tx k ∧ tx.data.toList = (oneT (s.data.toList.drop k)).2 ∧ Below w1.heap.size w1 w'

/-- What a call of next leaves: the token and the reader behind it; or the panic of a malformed token. -/
def NextPost (b : Nat) (s : ByteArray) (k : Nat) (w : World) (e : Ending) (w' : World) : Prop :=
  (rightB (oneT (s.data.toList.drop k)).1 (oneT (s.data.toList.drop k)).2 = true ∧ ∃ tx : ByteArray, tx.data.toList = (oneT (s.data.toList.drop k)).2 ∧
    e = .returned (.agg #[.int .i64 (oneT (s.data.toList.drop k)).1, .string tx, .int .i64 k]) ∧ RdAt w' b s ((k : Int) + (oneT (s.data.toList.drop k)).2.length) ∧ w.grownBy w' (some b)) ∨
  (rightB (oneT (s.data.toList.drop k)).1 (oneT (s.data.toList.drop k)).2 = false ∧ e = .panicked [{ v := .iface 146 (.agg #[.int .i64 k]), recovered := false }] ∧ w.grownBy w' (some b))
theorem RdAt.far {w : World} {b t : Nat} {s : ByteArray} {k : Int} (h : RdAt w b s k) (hne : ¬ b = t) (o : Nat) (u : Value) : RdAt (w.setCell ⟨t, o, none⟩ u) b s k := (Below.heap_setCell w ⟨t, o, none⟩ u b hne).trans h
theorem TokAt.far {w : World} {b t : Nat} {kd k : Int} {tx : ByteArray} (h : TokAt w b kd tx k) (hne : ¬ b = t) (o : Nat) (u : Value) : TokAt (w.setCell ⟨t, o, none⟩ u) b kd tx k := (Below.heap_setCell w ⟨t, o, none⟩ u b hne).trans h
theorem TokAt.set2 {w : World} {t : Nat} {kd k : Int} {tx : ByteArray} (h : TokAt w t kd tx k) (k' : Int) : TokAt (w.setCell ⟨t, 2, none⟩ (.int .i64 k')) t kd tx k' := by
  have h' := h
  unfold TokAt at h h' ⊢
  simp only [World.setCell, Array.getElem?_modify, h', if_true, Option.map_some]
  rfl
theorem only_new {w w1 : World} (h : Below w.heap.size w w1) (b : Nat) : w.grownBy w1 (some b) := ⟨h.os, h.tape, h.output, h.size, fun i hi _ => h.block i hi⟩
theorem only_far {a w : World} {b t : Nat} (h : a.grownBy w (some b)) (ht : a.heap.size ≤ t) (o : Nat) (u : Value) : a.grownBy (w.setCell ⟨t, o, none⟩ u) (some b) :=
  ⟨h.os, h.tape, h.output, by simpa [World.setCell] using h.size, fun i hi hne => (Below.heap_setCell w ⟨t, o, none⟩ u i (by intro e; simp at e; omega)).trans (h.block i hi hne)⟩
theorem only_drew {a w : World} {row : Option Nat} (h : a.grownBy w row) : a.grownBy w.drew row := ⟨h.os, h.tape, h.output, h.size, h.block⟩
theorem alloc_trans {w w1 : World} {o : Obj} (h : Below (w.alloc o).heap.size (w.alloc o) w1) : Below w.heap.size w w1 :=
  ((Below.refl w.heap.size w).alloc (Nat.le_refl _) o).trans (h.mono (by simp))
theorem alloc_le {w w1 : World} {o : Obj} (h : Below (w.alloc o).heap.size (w.alloc o) w1) : w.heap.size ≤ w1.heap.size := by have := h.size; simp at this; omega
theorem size_list (s : ByteArray) : (s.size : Int) = (s.data.toList.length : Int) := by simp

def NextRel (s : ByteArray) (k : Nat) (w1 : World) (e : Value) (wr : World) : Prop :=
  ∃ e' : Nat, k ≤ e' ∧ e' ≤ s.size ∧ e = .int .i64 e' ∧ ((s.data.toList.drop k).take (e' - k)).all partB = true ∧ Below w1.heap.size w1 wr

set_option maxRecDepth 100000 in
set_option maxHeartbeats 4000000 in
theorem next_any (b : Nat) (s : ByteArray) (k : Nat) (w : World) (hs : s.size ≤ 1000000) (hk : k < s.size) (hR : RdAt w b s k) :
    Calls Tryz.prog 132 #[.pointer (some ⟨b, 0, none⟩)] w (NextPost b s k w) := by
  have hlb := lt_of_blk hR
  have HR := Lib.hid hR
  have e0 := hR.cells.1
  have e1 := hR.cells.2.1
  clear hR
  go_enter Tryz.func132, Tryz.ntmps132
  go_wp2
  have HR1 : Hid (RdAt (w.alloc (.cells #[.int .i64 0, .string ⟨#[]⟩, .int .i64 0] 47)) b s k) := Lib.hid (HR.out.below ((Below.refl _ _).alloc (Nat.le_refl _) _))
  clear e0 e1
  go_loopw [3] (fun e wr => NextRel s k (w.alloc (.cells #[.int .i64 0, .string ⟨#[]⟩, .int .i64 0] 47)) e wr) (fun e _ => s.size - (intOf e).toNat)
  case atStart => exact ⟨k, Nat.le_refl _, by omega, rfl, by simp, Below.refl _ _⟩
  case round =>
    obtain ⟨e, he1, he2, rfl, hall, hB⟩ := hrel
    have HRr := Lib.hid (HR1.out.below hB)
    have HA := Lib.hid hall
    have HB := Lib.hid hB
    have hBs := hB.size
    have e0 := HRr.out.cells.1
    have e1 := HRr.out.cells.2.1
    have ht := HRr.out.tests
    have HT := Lib.hid ht
    clear hall hB ht HR1 HR
    by_cases hmore : ∃ h : e < s.size, partB s[e] = true
    · obtain ⟨hlt, hp⟩ := hmore
      have HP := Lib.hid hp
      go_wp2_with (go_at_call 174; refine (part_rd _ _ _ _ _ HRr.out).mono ?_; rintro e' w1 ⟨rfl, hb1⟩)
      go_roundw
      case rel =>
        refine ⟨e + 1, by omega, by omega, by go_num, ?_, HB.out.trans (hb1.mono hBs)⟩
        rw [show e + 1 - k = (e - k) + 1 from by omega]
        exact wb_step (by simp; omega) HA.out (by rw [drop_at hlt he1]; exact HP.out)
      case measure => simp [intOf]; omega
    · have HW : Hid ((s.data.toList.drop k).takeWhile partB = (s.data.toList.drop k).take (e - k)) := Lib.hid (takeWhile_of (by simp; omega) HA.out (fun h' => by
        have hlt : e < s.size := by simp at h'; omega
        have : partB s[e] = false := by
          cases hp : partB s[e]
          · rfl
          · exact absurd ⟨hlt, hp⟩ hmore
        rw [drop_at hlt he1]; exact this))
      clear HT
      by_cases hlt : e < s.size
      · have hp : partB s[e] = false := by
          cases hp : partB s[e]
          · rfl
          · exact absurd ⟨hlt, hp⟩ hmore
        clear hmore
        go_wp2_with fail
        refine (part_rd _ _ _ _ _ HRr.out).mono ?_
        rintro e' w1 ⟨rfl, hb1⟩
        have hrr := HRr.out.below hb1
        have hbb := HB.out.trans (hb1.mono hBs)
        clear HRr HB e0 e1 hb1
        have HRr := Lib.hid hrr
        have HB := Lib.hid hbb
        have e0 := hrr.cells.1
        have e1 := hrr.cells.2.1
        clear hrr hbb
        go_wp2_with fail
        have HT := Lib.hid (tok_new w1 4 ⟨#[]⟩ k)
        have HR2 := Lib.hid (HRr.out.below ((Below.refl _ _).alloc (Nat.le_refl _) (.cells #[.int .i64 4, .string ⟨#[]⟩, .int .i64 (k : Int)] 47)))
        obtain ⟨w2, hw2⟩ : ∃ x, x = w1.alloc (.cells #[.int .i64 4, .string ⟨#[]⟩, .int .i64 (k : Int)] 47) := ⟨_, rfl⟩
        rw [← hw2] at HT HR2 ⊢
        have HB2 : Hid (Below w1.heap.size w1 w2) := Lib.hid (by rw [hw2]; exact (Below.refl _ _).alloc (Nat.le_refl _) _)
        clear hw2 e0 e1
        have d0 : ∀ x : Later w2, x.world.cell? ⟨b, 0, none⟩ = some (.string s) := later_cell HR2.out.cells.1
        have d1 : ∀ x : Later w2, x.world.cell? ⟨b, 1, none⟩ = some (.int .i64 (k : Int)) := later_cell HR2.out.cells.2.1
        go_wp2_with fail
        refine wp_region_later (by kernel_rfl) (by kernel_rfl) ?_
        repeat (go_big_quiet_step (fail))
        refine wpQuiet_nil ?_
        intro w3 hb3
        have HR3 := Lib.hid (HR2.out.below hb3)
        have HT3 := Lib.hid (HT.out.below hb3)
        have HB3 := Lib.hid (HB2.out.trans (hb3.mono HB2.out.size))
        clear d0 d1 hb3
        go_upto_block 2 with (fail)
        go_cut [] (fun w' => CutRel s k w1 w')
        case first =>
          have e0 := HR3.out.cells.1
          have e1 := HR3.out.cells.2.1
          have t0 := HR3.out.tests.1
          go_upto_if 83 with (go_at_call 172; refine (has_letter _ _).mono ?_; rintro e' w4 ⟨rfl, hb4⟩)
          have HR4 := Lib.hid (HR3.out.below hb4)
          have HT4 := Lib.hid (HT3.out.below hb4)
          have HB4 := Lib.hid (HB3.out.trans (hb4.mono HB3.out.size))
          clear e0 e1 t0 hb4
          cases hlet : letterB s[k]
          · have t1 := HR4.out.tests.2.1
            go_upto_if 110 with (go_at_call 172; refine (has_digit _ _).mono ?_; rintro e' w5 ⟨rfl, hb5⟩)
            have HR5 := Lib.hid (HR4.out.below hb5)
            have HT5 := Lib.hid (HT4.out.below hb5)
            have HB5 := Lib.hid (HB4.out.trans (hb5.mono HB4.out.size))
            clear t1 hb5 HR4 HT4 HB4
            have d0 := HR5.out.cells.1
            have d1 := HR5.out.cells.2.1
            have d2 := HT5.out.free
            have d3 := HT5.out.cells
            have hbT := lt_of_blk HRr.out
            have hne : ¬ b = w1.heap.size := by omega
            cases hdig : digitB s[k]
            · have HS : Hid (oneT (s.data.toList.drop k) = (4, if memL signBytes ((s.data.toList.drop k).take 2) then (s.data.toList.drop k).take 2 else (s.data.toList.drop k).take 1)) := Lib.hid (oneT_sign hk hlet hdig)
              clear hlet
              go_wp2_with fail
              go_region
              go_wp2_with fail
              refine wp_world (F := fun w' => ∃ x : ByteArray, x.data.toList = (s.data.toList.drop k).take 2 ∧ TokAt w' w1.heap.size 4 x k ∧ Below w1.heap.size w1 w') ⟨s.extract k (min ((k : Int) + 2) s.size).toNat, extract_two hk, HT5.out.set1 _, (HB5.out.setCell (p := ⟨w1.heap.size, 1, none⟩) (Nat.le_refl _) _).drew⟩ ?_
              rintro w6 ⟨x, hx, hT6, hB6⟩
              have HX := Lib.hid hx
              have HT6 := Lib.hid hT6
              have HB6 := Lib.hid hB6
              have c1 := hT6.cells.2.1
              have c2 := lt_of_blk hT6
              have hx1 : 1 ≤ x.size := two_size hk hx
              clear hx hT6 hB6 d0 d1 d2 d3 HT5 HB5
              cases hm : memB signList x
              · have HO : Hid (oneT (s.data.toList.drop k) = (4, (x.extract 0 1).data.toList)) := Lib.hid (by
                  rw [HS.out, ← HX.out, ← memB_signs, hm, extract_list, HX.out]; simp [List.take_take])
                have c3 := HT6.out.free.2.1
                go_region_held3 (fun w' => w'.cell? ⟨w1.heap.size, 1, none⟩ = some (.string x)) (go_keep) (first | (go_at_call 151; refine (signs_any _).mono ?_; rintro e w' ⟨rfl, rfl⟩) | (go_at_call 50; refine (contains_any _ 21 _ signList _ _ rfl (by omega) (signs_cells_d _)).mono ?_; rintro e w' ⟨rfl, rfl⟩))
                go_wp2_with fail
                go_meet
                case rel =>
                  have hT7 := HT6.out.set1 (x.extract 0 1)
                  have hB7 := HB6.out.setCell (p := ⟨w1.heap.size, 1, none⟩) (Nat.le_refl _) (.string (x.extract 0 1))
                  have hb7 := ((Below.refl (w6.setCell ⟨w1.heap.size, 1, none⟩ (.string (x.extract 0 1))).heap.size (w6.setCell ⟨w1.heap.size, 1, none⟩ (.string (x.extract 0 1)))).alloc (Nat.le_refl _) (.cells signCells 9)).drew
                  exact ⟨x.extract 0 1, by rw [HO.out]; exact hT7.below hb7, by rw [HO.out], hB7.trans (hb7.mono hB7.size)⟩
              · have HO : Hid (oneT (s.data.toList.drop k) = (4, x.data.toList)) := Lib.hid (by
                  rw [HS.out, ← HX.out, ← memB_signs, hm]; rfl)
                go_region_held3 (fun w' => w'.cell? ⟨w1.heap.size, 1, none⟩ = some (.string x)) (go_keep) (first | (go_at_call 151; refine (signs_any _).mono ?_; rintro e w' ⟨rfl, rfl⟩) | (go_at_call 50; refine (contains_any _ 21 _ signList _ _ rfl (by omega) (signs_cells_d _)).mono ?_; rintro e w' ⟨rfl, rfl⟩))
                go_wp2_with fail
                go_meet
                case rel =>
                  have hb7 : Below w6.heap.size w6 (w6.alloc (.cells signCells 9)).drew := ((Below.refl _ _).alloc (Nat.le_refl _) _).drew
                  exact ⟨x, by rw [HO.out]; exact HT6.out.below hb7, by rw [HO.out], HB6.out.trans (hb7.mono HB6.out.size)⟩
            · have HO : Hid (oneT (s.data.toList.drop k) = (3, (s.extract k e).data.toList)) := Lib.hid (by rw [oneT_digit hk hlet hdig, extract_list, ← HW.out])
              clear hlet
              go_wp2_with fail
              go_region
              go_wp2_with fail
              go_meet
              case rel =>
                exact ⟨s.extract k e, by rw [HO.out]; exact (HT5.out.set0 3).set1 (s.extract k e), by rw [HO.out], ((HB5.out.setCell (p := ⟨w1.heap.size, 0, none⟩) (Nat.le_refl _) _).setCell (p := ⟨w1.heap.size, 1, none⟩) (Nat.le_refl _) _).drew⟩
          · have d0 := HR4.out.cells.1
            have d1 := HR4.out.cells.2.1
            have d2 := HT4.out.free
            have d3 := HT4.out.cells
            have hbT := lt_of_blk HRr.out
            have hne : ¬ b = w1.heap.size := by omega
            go_wp2_with fail
            go_region
            go_wp2_with fail
            refine wp_world (F := fun w' => TokAt w' w1.heap.size 1 (s.extract k e) k ∧ Below w1.heap.size w1 w') ⟨(HT4.out.set0 1).set1 (s.extract k e), ((HB4.out.setCell (p := ⟨w1.heap.size, 0, none⟩) (Nat.le_refl _) _).setCell (p := ⟨w1.heap.size, 1, none⟩) (Nat.le_refl _) _).drew⟩ ?_
            rintro w5 ⟨hT5, hB5⟩
            have HT5 := Lib.hid hT5
            have HB5 := Lib.hid hB5
            have c1 := hT5.cells.2.1
            have c2 := lt_of_blk hT5
            clear hT5 hB5 d0 d1 d2 d3 HT4 HB4
            have HX : Hid ((s.extract k e).data.toList = (s.data.toList.drop k).takeWhile partB) := Lib.hid (by rw [HW.out, extract_list])
            cases hm : memB wordList (s.extract k e)
            · have HO : Hid (oneT (s.data.toList.drop k) = (1, (s.extract k e).data.toList)) := Lib.hid (by rw [oneT_letter hk hlet, HX.out, ← HX.out, ← memB_words, hm]; rfl)
              clear hlet
              go_region_held3 (fun w' => w'.cell? ⟨w1.heap.size, 1, none⟩ = some (.string (s.extract k e))) (go_keep) (first | (go_at_call 149; refine (words_any _).mono ?_; rintro e w' ⟨rfl, rfl⟩) | (go_at_call 50; refine (contains_any _ 23 _ wordList _ _ rfl (by omega) (words_cells_d _)).mono ?_; rintro e w' ⟨rfl, rfl⟩))
              go_wp2_with fail
              go_meet
              case rel =>
                have hb5 : Below w5.heap.size w5 (w5.alloc (.cells wordCells 9)).drew := ((Below.refl _ _).alloc (Nat.le_refl _) _).drew
                exact ⟨s.extract k e, by rw [HO.out]; exact HT5.out.below hb5, by rw [HO.out], HB5.out.trans (hb5.mono HB5.out.size)⟩
            · have HO : Hid (oneT (s.data.toList.drop k) = (2, (s.extract k e).data.toList)) := Lib.hid (by rw [oneT_letter hk hlet, HX.out, ← HX.out, ← memB_words, hm]; rfl)
              clear hlet
              have c0 := HT5.out.cells.1
              have c3 := HT5.out.free.1
              go_region_held3 (fun w' => w'.cell? ⟨w1.heap.size, 1, none⟩ = some (.string (s.extract k e))) (go_keep) (first | (go_at_call 149; refine (words_any _).mono ?_; rintro e w' ⟨rfl, rfl⟩) | (go_at_call 50; refine (contains_any _ 23 _ wordList _ _ rfl (by omega) (words_cells_d _)).mono ?_; rintro e w' ⟨rfl, rfl⟩))
              go_wp2_with fail
              go_meet
              case rel =>
                have hT6 := HT5.out.set0 2
                have hB6 := HB5.out.setCell (p := ⟨w1.heap.size, 0, none⟩) (Nat.le_refl _) (.int .i64 2)
                have hb6 := ((Below.refl (w5.setCell ⟨w1.heap.size, 0, none⟩ (.int .i64 2)).heap.size (w5.setCell ⟨w1.heap.size, 0, none⟩ (.int .i64 2))).alloc (Nat.le_refl _) (.cells wordCells 9)).drew
                exact ⟨s.extract k e, by rw [HO.out]; exact hT6.below hb6, by rw [HO.out], hB6.trans (hb6.mono hB6.size)⟩
        case rest =>
          obtain ⟨tx, hTc, htx, hBc⟩ := hcut
          have HTc := Lib.hid hTc
          have HBc := Lib.hid hBc
          have HX := Lib.hid htx
          have HRc := Lib.hid (HRr.out.below hBc)
          have HZ1 : Hid (TokAt w1 w.heap.size 0 ⟨#[]⟩ 0) := Lib.hid ((tok_new w 0 ⟨#[]⟩ 0).below HB.out)
          have HZ := Lib.hid (HZ1.out.below hBc)
          have hbT := lt_of_blk HRr.out
          have hZT := lt_of_blk HZ1.out
          have htl : tx.size ≤ s.size - k := one_size htx
          obtain ⟨kd, hkd⟩ : ∃ kd, kd = (oneT (s.data.toList.drop k)).1 := ⟨_, rfl⟩
          rw [← hkd] at HTc
          have HKD := Lib.hid hkd
          have d3 := HTc.out.cells
          clear hTc hBc htx hkd HR3 HT3 HB3 HR2 HT HB2
          cases hri : rightB kd tx.data.toList
          · have HRI : Hid (rightB (oneT (s.data.toList.drop k)).1 (oneT (s.data.toList.drop k)).2 = false) := Lib.hid (by rw [← HKD.out, ← HX.out]; exact hri)
            go_wp2_with fail
            refine (right_any _ _ _ (by omega)).mono ?_
            rintro e' w5 ⟨rfl, hb5⟩
            have e0 := (HRc.out.below hb5).cells.1
            have e1 := (HRc.out.below hb5).cells.2.1
            go_wp2
            exact ⟨rfl, .inr ⟨HRI.out, rfl, only_new ((alloc_trans HB.out).trans ((HBc.out.trans (hb5.mono HBc.out.size)).mono (alloc_le HB.out))) b⟩⟩
          · have HRI : Hid (rightB (oneT (s.data.toList.drop k)).1 (oneT (s.data.toList.drop k)).2 = true) := Lib.hid (by rw [← HKD.out, ← HX.out]; exact hri)
            go_wp2_with fail
            refine (right_any _ _ _ (by omega)).mono ?_
            rintro e' w5 ⟨rfl, hb5⟩
            have HR5 := Lib.hid (HRc.out.below hb5)
            have HT5 := Lib.hid (HTc.out.below hb5)
            have HZ5 := Lib.hid (HZ.out.below hb5)
            have HB5 := Lib.hid (HBc.out.trans (hb5.mono HBc.out.size))
            clear d3 hb5
            have e0 := HR5.out.cells
            have d3 := HT5.out.cells
            have hne : ¬ b = w1.heap.size := by omega
            have hne2 : ¬ b = w.heap.size := by omega
            have hne3 : ¬ w1.heap.size = w.heap.size := by omega
            have hsum : (k : Int) + tx.size ≤ 1000000 := by omega
            have z0 := HZ5.out.cells
            have z1 := HZ5.out.free
            go_wp2_with fail
            go_region
            go_wp2
            have HN : Hid (RdAt (((((w5.setCell ⟨b, 1, none⟩ (.int .i64 ((k : Int) + (tx.size : Int)))).setCell ⟨w.heap.size, 0, none⟩ (.int .i64 kd)).setCell ⟨w.heap.size, 1, none⟩ (.string tx)).setCell ⟨w.heap.size, 2, none⟩ (.int .i64 (k : Int))).drew) b s ((k : Int) + (tx.size : Int))) := Lib.hid ((((HR5.out.set _).far hne2 _ _).far hne2 _ _).far hne2 _ _)
            have HE : Hid (TokAt (((((w5.setCell ⟨b, 1, none⟩ (.int .i64 ((k : Int) + (tx.size : Int)))).setCell ⟨w.heap.size, 0, none⟩ (.int .i64 kd)).setCell ⟨w.heap.size, 1, none⟩ (.string tx)).setCell ⟨w.heap.size, 2, none⟩ (.int .i64 (k : Int))).drew) w.heap.size kd tx k) := Lib.hid ((((HZ5.out.far (fun h => hne2 h.symm) _ _).set0 kd).set1 tx).set2 k)
            have HO5 : Hid (w.grownBy w5 (some b)) := Lib.hid (only_new ((alloc_trans HB.out).trans (HB5.out.mono (alloc_le HB.out))) b)
            have HG : Hid (w.grownBy (((((w5.setCell ⟨b, 1, none⟩ (.int .i64 ((k : Int) + (tx.size : Int)))).setCell ⟨w.heap.size, 0, none⟩ (.int .i64 kd)).setCell ⟨w.heap.size, 1, none⟩ (.string tx)).setCell ⟨w.heap.size, 2, none⟩ (.int .i64 (k : Int))).drew) (some b)) := Lib.hid (only_drew (only_far (only_far (only_far (only_set HO5.out _ _) (Nat.le_refl _) _ _) (Nat.le_refl _) _ _) (Nat.le_refl _) _ _))
            generalize (((((w5.setCell ⟨b, 1, none⟩ (.int .i64 ((k : Int) + (tx.size : Int)))).setCell ⟨w.heap.size, 0, none⟩ (.int .i64 kd)).setCell ⟨w.heap.size, 1, none⟩ (.string tx)).setCell ⟨w.heap.size, 2, none⟩ (.int .i64 (k : Int))).drew) = w9 at HN HE HG ⊢
            have q := HE.out.cells
            exact bodyPost_ret (v := .agg #[.int .i64 kd, .string tx, .int .i64 k]) (by simp [results, Tryz.results132, go_sem, q.1, q.2.1, q.2.2]) rfl (.inl ⟨HRI.out, tx, HX.out, by rw [← HKD.out], by rw [← HX.out]; exact (size_list tx) ▸ HN.out, HG.out⟩)
      · clear hmore
        go_wp2_with fail
        obtain ⟨w1, hw1⟩ : ∃ x, x = wr := ⟨_, rfl⟩
        subst hw1
        have HT := Lib.hid (tok_new w1 4 ⟨#[]⟩ k)
        have HR2 := Lib.hid (HRr.out.below ((Below.refl _ _).alloc (Nat.le_refl _) (.cells #[.int .i64 4, .string ⟨#[]⟩, .int .i64 (k : Int)] 47)))
        obtain ⟨w2, hw2⟩ : ∃ x, x = w1.alloc (.cells #[.int .i64 4, .string ⟨#[]⟩, .int .i64 (k : Int)] 47) := ⟨_, rfl⟩
        rw [← hw2] at HT HR2 ⊢
        have HB2 : Hid (Below w1.heap.size w1 w2) := Lib.hid (by rw [hw2]; exact (Below.refl _ _).alloc (Nat.le_refl _) _)
        clear hw2 e0 e1
        have d0 : ∀ x : Later w2, x.world.cell? ⟨b, 0, none⟩ = some (.string s) := later_cell HR2.out.cells.1
        have d1 : ∀ x : Later w2, x.world.cell? ⟨b, 1, none⟩ = some (.int .i64 (k : Int)) := later_cell HR2.out.cells.2.1
        go_wp2_with fail
        refine wp_region_later (by kernel_rfl) (by kernel_rfl) ?_
        repeat (go_big_quiet_step (fail))
        refine wpQuiet_nil ?_
        intro w3 hb3
        have HR3 := Lib.hid (HR2.out.below hb3)
        have HT3 := Lib.hid (HT.out.below hb3)
        have HB3 := Lib.hid (HB2.out.trans (hb3.mono HB2.out.size))
        clear d0 d1 hb3
        go_upto_block 2 with (fail)
        go_cut [] (fun w' => CutRel s k w1 w')
        case first =>
          have e0 := HR3.out.cells.1
          have e1 := HR3.out.cells.2.1
          have t0 := HR3.out.tests.1
          go_upto_if 83 with (go_at_call 172; refine (has_letter _ _).mono ?_; rintro e' w4 ⟨rfl, hb4⟩)
          have HR4 := Lib.hid (HR3.out.below hb4)
          have HT4 := Lib.hid (HT3.out.below hb4)
          have HB4 := Lib.hid (HB3.out.trans (hb4.mono HB3.out.size))
          clear e0 e1 t0 hb4
          cases hlet : letterB s[k]
          · have t1 := HR4.out.tests.2.1
            go_upto_if 110 with (go_at_call 172; refine (has_digit _ _).mono ?_; rintro e' w5 ⟨rfl, hb5⟩)
            have HR5 := Lib.hid (HR4.out.below hb5)
            have HT5 := Lib.hid (HT4.out.below hb5)
            have HB5 := Lib.hid (HB4.out.trans (hb5.mono HB4.out.size))
            clear t1 hb5 HR4 HT4 HB4
            have d0 := HR5.out.cells.1
            have d1 := HR5.out.cells.2.1
            have d2 := HT5.out.free
            have d3 := HT5.out.cells
            have hbT := lt_of_blk HRr.out
            have hne : ¬ b = w1.heap.size := by omega
            cases hdig : digitB s[k]
            · have HS : Hid (oneT (s.data.toList.drop k) = (4, if memL signBytes ((s.data.toList.drop k).take 2) then (s.data.toList.drop k).take 2 else (s.data.toList.drop k).take 1)) := Lib.hid (oneT_sign hk hlet hdig)
              clear hlet
              go_wp2_with fail
              go_region
              go_wp2_with fail
              refine wp_world (F := fun w' => ∃ x : ByteArray, x.data.toList = (s.data.toList.drop k).take 2 ∧ TokAt w' w1.heap.size 4 x k ∧ Below w1.heap.size w1 w') ⟨s.extract k (min ((k : Int) + 2) s.size).toNat, extract_two hk, HT5.out.set1 _, (HB5.out.setCell (p := ⟨w1.heap.size, 1, none⟩) (Nat.le_refl _) _).drew⟩ ?_
              rintro w6 ⟨x, hx, hT6, hB6⟩
              have HX := Lib.hid hx
              have HT6 := Lib.hid hT6
              have HB6 := Lib.hid hB6
              have c1 := hT6.cells.2.1
              have c2 := lt_of_blk hT6
              have hx1 : 1 ≤ x.size := two_size hk hx
              clear hx hT6 hB6 d0 d1 d2 d3 HT5 HB5
              cases hm : memB signList x
              · have HO : Hid (oneT (s.data.toList.drop k) = (4, (x.extract 0 1).data.toList)) := Lib.hid (by
                  rw [HS.out, ← HX.out, ← memB_signs, hm, extract_list, HX.out]; simp [List.take_take])
                have c3 := HT6.out.free.2.1
                go_region_held3 (fun w' => w'.cell? ⟨w1.heap.size, 1, none⟩ = some (.string x)) (go_keep) (first | (go_at_call 151; refine (signs_any _).mono ?_; rintro e w' ⟨rfl, rfl⟩) | (go_at_call 50; refine (contains_any _ 21 _ signList _ _ rfl (by omega) (signs_cells_d _)).mono ?_; rintro e w' ⟨rfl, rfl⟩))
                go_wp2_with fail
                go_meet
                case rel =>
                  have hT7 := HT6.out.set1 (x.extract 0 1)
                  have hB7 := HB6.out.setCell (p := ⟨w1.heap.size, 1, none⟩) (Nat.le_refl _) (.string (x.extract 0 1))
                  have hb7 := ((Below.refl (w6.setCell ⟨w1.heap.size, 1, none⟩ (.string (x.extract 0 1))).heap.size (w6.setCell ⟨w1.heap.size, 1, none⟩ (.string (x.extract 0 1)))).alloc (Nat.le_refl _) (.cells signCells 9)).drew
                  exact ⟨x.extract 0 1, by rw [HO.out]; exact hT7.below hb7, by rw [HO.out], hB7.trans (hb7.mono hB7.size)⟩
              · have HO : Hid (oneT (s.data.toList.drop k) = (4, x.data.toList)) := Lib.hid (by
                  rw [HS.out, ← HX.out, ← memB_signs, hm]; rfl)
                go_region_held3 (fun w' => w'.cell? ⟨w1.heap.size, 1, none⟩ = some (.string x)) (go_keep) (first | (go_at_call 151; refine (signs_any _).mono ?_; rintro e w' ⟨rfl, rfl⟩) | (go_at_call 50; refine (contains_any _ 21 _ signList _ _ rfl (by omega) (signs_cells_d _)).mono ?_; rintro e w' ⟨rfl, rfl⟩))
                go_wp2_with fail
                go_meet
                case rel =>
                  have hb7 : Below w6.heap.size w6 (w6.alloc (.cells signCells 9)).drew := ((Below.refl _ _).alloc (Nat.le_refl _) _).drew
                  exact ⟨x, by rw [HO.out]; exact HT6.out.below hb7, by rw [HO.out], HB6.out.trans (hb7.mono HB6.out.size)⟩
            · have HO : Hid (oneT (s.data.toList.drop k) = (3, (s.extract k e).data.toList)) := Lib.hid (by rw [oneT_digit hk hlet hdig, extract_list, ← HW.out])
              clear hlet
              go_wp2_with fail
              go_region
              go_wp2_with fail
              go_meet
              case rel =>
                exact ⟨s.extract k e, by rw [HO.out]; exact (HT5.out.set0 3).set1 (s.extract k e), by rw [HO.out], ((HB5.out.setCell (p := ⟨w1.heap.size, 0, none⟩) (Nat.le_refl _) _).setCell (p := ⟨w1.heap.size, 1, none⟩) (Nat.le_refl _) _).drew⟩
          · have d0 := HR4.out.cells.1
            have d1 := HR4.out.cells.2.1
            have d2 := HT4.out.free
            have d3 := HT4.out.cells
            have hbT := lt_of_blk HRr.out
            have hne : ¬ b = w1.heap.size := by omega
            go_wp2_with fail
            go_region
            go_wp2_with fail
            refine wp_world (F := fun w' => TokAt w' w1.heap.size 1 (s.extract k e) k ∧ Below w1.heap.size w1 w') ⟨(HT4.out.set0 1).set1 (s.extract k e), ((HB4.out.setCell (p := ⟨w1.heap.size, 0, none⟩) (Nat.le_refl _) _).setCell (p := ⟨w1.heap.size, 1, none⟩) (Nat.le_refl _) _).drew⟩ ?_
            rintro w5 ⟨hT5, hB5⟩
            have HT5 := Lib.hid hT5
            have HB5 := Lib.hid hB5
            have c1 := hT5.cells.2.1
            have c2 := lt_of_blk hT5
            clear hT5 hB5 d0 d1 d2 d3 HT4 HB4
            have HX : Hid ((s.extract k e).data.toList = (s.data.toList.drop k).takeWhile partB) := Lib.hid (by rw [HW.out, extract_list])
            cases hm : memB wordList (s.extract k e)
            · have HO : Hid (oneT (s.data.toList.drop k) = (1, (s.extract k e).data.toList)) := Lib.hid (by rw [oneT_letter hk hlet, HX.out, ← HX.out, ← memB_words, hm]; rfl)
              clear hlet
              go_region_held3 (fun w' => w'.cell? ⟨w1.heap.size, 1, none⟩ = some (.string (s.extract k e))) (go_keep) (first | (go_at_call 149; refine (words_any _).mono ?_; rintro e w' ⟨rfl, rfl⟩) | (go_at_call 50; refine (contains_any _ 23 _ wordList _ _ rfl (by omega) (words_cells_d _)).mono ?_; rintro e w' ⟨rfl, rfl⟩))
              go_wp2_with fail
              go_meet
              case rel =>
                have hb5 : Below w5.heap.size w5 (w5.alloc (.cells wordCells 9)).drew := ((Below.refl _ _).alloc (Nat.le_refl _) _).drew
                exact ⟨s.extract k e, by rw [HO.out]; exact HT5.out.below hb5, by rw [HO.out], HB5.out.trans (hb5.mono HB5.out.size)⟩
            · have HO : Hid (oneT (s.data.toList.drop k) = (2, (s.extract k e).data.toList)) := Lib.hid (by rw [oneT_letter hk hlet, HX.out, ← HX.out, ← memB_words, hm]; rfl)
              clear hlet
              have c0 := HT5.out.cells.1
              have c3 := HT5.out.free.1
              go_region_held3 (fun w' => w'.cell? ⟨w1.heap.size, 1, none⟩ = some (.string (s.extract k e))) (go_keep) (first | (go_at_call 149; refine (words_any _).mono ?_; rintro e w' ⟨rfl, rfl⟩) | (go_at_call 50; refine (contains_any _ 23 _ wordList _ _ rfl (by omega) (words_cells_d _)).mono ?_; rintro e w' ⟨rfl, rfl⟩))
              go_wp2_with fail
              go_meet
              case rel =>
                have hT6 := HT5.out.set0 2
                have hB6 := HB5.out.setCell (p := ⟨w1.heap.size, 0, none⟩) (Nat.le_refl _) (.int .i64 2)
                have hb6 := ((Below.refl (w5.setCell ⟨w1.heap.size, 0, none⟩ (.int .i64 2)).heap.size (w5.setCell ⟨w1.heap.size, 0, none⟩ (.int .i64 2))).alloc (Nat.le_refl _) (.cells wordCells 9)).drew
                exact ⟨s.extract k e, by rw [HO.out]; exact hT6.below hb6, by rw [HO.out], hB6.trans (hb6.mono hB6.size)⟩
        case rest =>
          obtain ⟨tx, hTc, htx, hBc⟩ := hcut
          have HTc := Lib.hid hTc
          have HBc := Lib.hid hBc
          have HX := Lib.hid htx
          have HRc := Lib.hid (HRr.out.below hBc)
          have HZ1 : Hid (TokAt w1 w.heap.size 0 ⟨#[]⟩ 0) := Lib.hid ((tok_new w 0 ⟨#[]⟩ 0).below HB.out)
          have HZ := Lib.hid (HZ1.out.below hBc)
          have hbT := lt_of_blk HRr.out
          have hZT := lt_of_blk HZ1.out
          have htl : tx.size ≤ s.size - k := one_size htx
          obtain ⟨kd, hkd⟩ : ∃ kd, kd = (oneT (s.data.toList.drop k)).1 := ⟨_, rfl⟩
          rw [← hkd] at HTc
          have HKD := Lib.hid hkd
          have d3 := HTc.out.cells
          clear hTc hBc htx hkd HR3 HT3 HB3 HR2 HT HB2
          cases hri : rightB kd tx.data.toList
          · have HRI : Hid (rightB (oneT (s.data.toList.drop k)).1 (oneT (s.data.toList.drop k)).2 = false) := Lib.hid (by rw [← HKD.out, ← HX.out]; exact hri)
            go_wp2_with fail
            refine (right_any _ _ _ (by omega)).mono ?_
            rintro e' w5 ⟨rfl, hb5⟩
            have e0 := (HRc.out.below hb5).cells.1
            have e1 := (HRc.out.below hb5).cells.2.1
            go_wp2
            exact ⟨rfl, .inr ⟨HRI.out, rfl, only_new ((alloc_trans HB.out).trans ((HBc.out.trans (hb5.mono HBc.out.size)).mono (alloc_le HB.out))) b⟩⟩
          · have HRI : Hid (rightB (oneT (s.data.toList.drop k)).1 (oneT (s.data.toList.drop k)).2 = true) := Lib.hid (by rw [← HKD.out, ← HX.out]; exact hri)
            go_wp2_with fail
            refine (right_any _ _ _ (by omega)).mono ?_
            rintro e' w5 ⟨rfl, hb5⟩
            have HR5 := Lib.hid (HRc.out.below hb5)
            have HT5 := Lib.hid (HTc.out.below hb5)
            have HZ5 := Lib.hid (HZ.out.below hb5)
            have HB5 := Lib.hid (HBc.out.trans (hb5.mono HBc.out.size))
            clear d3 hb5
            have e0 := HR5.out.cells
            have d3 := HT5.out.cells
            have hne : ¬ b = w1.heap.size := by omega
            have hne2 : ¬ b = w.heap.size := by omega
            have hne3 : ¬ w1.heap.size = w.heap.size := by omega
            have hsum : (k : Int) + tx.size ≤ 1000000 := by omega
            have z0 := HZ5.out.cells
            have z1 := HZ5.out.free
            go_wp2_with fail
            go_region
            go_wp2
            have HN : Hid (RdAt (((((w5.setCell ⟨b, 1, none⟩ (.int .i64 ((k : Int) + (tx.size : Int)))).setCell ⟨w.heap.size, 0, none⟩ (.int .i64 kd)).setCell ⟨w.heap.size, 1, none⟩ (.string tx)).setCell ⟨w.heap.size, 2, none⟩ (.int .i64 (k : Int))).drew) b s ((k : Int) + (tx.size : Int))) := Lib.hid ((((HR5.out.set _).far hne2 _ _).far hne2 _ _).far hne2 _ _)
            have HE : Hid (TokAt (((((w5.setCell ⟨b, 1, none⟩ (.int .i64 ((k : Int) + (tx.size : Int)))).setCell ⟨w.heap.size, 0, none⟩ (.int .i64 kd)).setCell ⟨w.heap.size, 1, none⟩ (.string tx)).setCell ⟨w.heap.size, 2, none⟩ (.int .i64 (k : Int))).drew) w.heap.size kd tx k) := Lib.hid ((((HZ5.out.far (fun h => hne2 h.symm) _ _).set0 kd).set1 tx).set2 k)
            have HO5 : Hid (w.grownBy w5 (some b)) := Lib.hid (only_new ((alloc_trans HB.out).trans (HB5.out.mono (alloc_le HB.out))) b)
            have HG : Hid (w.grownBy (((((w5.setCell ⟨b, 1, none⟩ (.int .i64 ((k : Int) + (tx.size : Int)))).setCell ⟨w.heap.size, 0, none⟩ (.int .i64 kd)).setCell ⟨w.heap.size, 1, none⟩ (.string tx)).setCell ⟨w.heap.size, 2, none⟩ (.int .i64 (k : Int))).drew) (some b)) := Lib.hid (only_drew (only_far (only_far (only_far (only_set HO5.out _ _) (Nat.le_refl _) _ _) (Nat.le_refl _) _ _) (Nat.le_refl _) _ _))
            generalize (((((w5.setCell ⟨b, 1, none⟩ (.int .i64 ((k : Int) + (tx.size : Int)))).setCell ⟨w.heap.size, 0, none⟩ (.int .i64 kd)).setCell ⟨w.heap.size, 1, none⟩ (.string tx)).setCell ⟨w.heap.size, 2, none⟩ (.int .i64 (k : Int))).drew) = w9 at HN HE HG ⊢
            have q := HE.out.cells
            exact bodyPost_ret (v := .agg #[.int .i64 kd, .string tx, .int .i64 k]) (by simp [results, Tryz.results132, go_sem, q.1, q.2.1, q.2.2]) rfl (.inl ⟨HRI.out, tx, HX.out, by rw [← HKD.out], by rw [← HX.out]; exact (size_list tx) ▸ HN.out, HG.out⟩)
end Go.Proofs.YtiledamgmppcmaaGreatDoor
/-! LexJ -/
namespace Go.Proofs.YtiledamgmppcmaaGreatDoor
open Go.RowKit

attribute [local go_sem] Oper.semAt_some

def KeepsRd (W W' : World) : Prop := ∀ (b : Nat) (s : ByteArray) (k : Int), RdAt W b s k → RdAt W' b s k

def SeqPost (s : ByteArray) (J : List Tok → World → Prop) (Jx : Nat → World → Prop) (e : Ending) (W' : World) : Prop :=
  ((scanG s.data.toList.length (s.data.toList.length + 1) s.data.toList []).2.2 = 0 ∧ e = .returned (.tuple #[]) ∧ J (scanG s.data.toList.length (s.data.toList.length + 1) s.data.toList []).1 W') ∨
  ((scanG s.data.toList.length (s.data.toList.length + 1) s.data.toList []).2.2 = 3 ∧ (scanG s.data.toList.length (s.data.toList.length + 1) s.data.toList []).1 = [] ∧ e = .returned (.tuple #[]) ∧ Jx (scanG s.data.toList.length (s.data.toList.length + 1) s.data.toList []).2.1 W') ∨
  ((scanG s.data.toList.length (s.data.toList.length + 1) s.data.toList []).2.2 = 340 ∧ (scanG s.data.toList.length (s.data.toList.length + 1) s.data.toList []).1 = [] ∧
    e = .panicked [{ v := .iface 146 (.agg #[.int .i64 ((scanG s.data.toList.length (s.data.toList.length + 1) s.data.toList []).2.1 : Int)]), recovered := false }] ∧ ∃ acc, J acc W')

/-- The loop's relation: the reader stands at k, behind space; what is left of the text gives the same end. -/
def SeqRel (s : ByteArray) (J : List Tok → World → Prop) (B : Nat) (wr : World) : Prop :=
  ∃ (k f : Nat) (acc : List Tok), k ≤ s.size ∧ RdAt wr B s k ∧ J acc wr ∧ skipF false (s.data.toList.drop k) = s.data.toList.drop k ∧ s.size - k < f ∧
    scanG s.data.toList.length f (s.data.toList.drop k) acc = scanG s.data.toList.length (s.data.toList.length + 1) s.data.toList []

set_option maxRecDepth 100000 in
set_option maxHeartbeats 4000000 in
theorem tokens1_any (n l TB : Nat) (s : ByteArray) (J : List Tok → World → Prop) (Jx : Nat → World → Prop) (W0 : World) (hs : s.size ≤ 20000) (hT : W0.cell? ⟨TB, 0, none⟩ = some (.string s))
    (hJb : ∀ acc W W', J acc W → Below W.heap.size W W' → J acc W')
    (hJr : ∀ acc W W' b k, W0.heap.size ≤ b → J acc W → RdAt W b s k → W.grownBy W' (some b) → J acc W')
    (hY : ∀ acc t W, J acc W → YieldAt Fence.wide n Tryz.prog l #[t.val] W fun e W' => (acc.length ≠ 2000 ∧ e = .returned (.bool true) ∧ J (acc ++ [t]) W' ∧ KeepsRd W W') ∨ (acc.length = 2000 ∧ e = .returned (.bool false) ∧ Jx t.pos W'))
    (h0 : J [] W0) :
    CallsIn Fence.wide (n + 1) Tryz.prog 129 #[.func (.yield l) #[] #[], .pointer (some ⟨TB, 0, none⟩)] W0 (SeqPost s J Jx) := by
  refine callsIn_of_wp Tryz.func129 rfl trivial ?_ rfl
  simp only [Tryz.ntmps129, List.size_toArray, List.length_cons, List.length_nil, Nat.reduceAdd, Nat.reduceSub, Array.replicate_succ, Array.replicate_zero, List.push_toArray, List.append_toArray, List.nil_append, List.cons_append]
  gi_wp2
  refine wpIn_wide.2 ?_
  go_region_held3 (fun w' => w'.cell? ⟨TB, 0, none⟩ = some (.string s)) (go_keep) (first | (go_at_call 130; refine (kinds_any _).mono ?_; rintro e w' ⟨rfl, rfl⟩; unfold kindCells))
  gi_wp2_with fail
  have hb1 : Below W0.heap.size W0 ((W0.alloc (.cells kindCells 190)).alloc (.cells (rdCells s 0) 193)).drew := (((Below.refl _ _).alloc (Nat.le_refl _) _).alloc (by simp) _).drew
  have hR1 : RdAt ((W0.alloc (.cells kindCells 190)).alloc (.cells (rdCells s 0) 193)).drew (W0.heap.size + 1) s 0 := by
    have := heap_alloc_new (W0.alloc (.cells kindCells 190)) (.cells (rdCells s 0) 193)
    rw [World.size_alloc] at this
    exact this
  have HJ1 : Hid (J [] _) := Lib.hid (hJb _ _ _ h0 hb1)
  have HR1 := Lib.hid hR1
  have HJb := Lib.hid hJb
  have HJr := Lib.hid hJr
  have HY := Lib.hid hY
  clear hR1 hb1 hJb hJr hY h0 hT
  refine ⟨trivial, (callsIn_wide.2 (skip_any (W0.heap.size + 1) s 0 _ (by omega) (by omega) HR1.out)).mono ?_⟩
  rintro e w2 ⟨rfl, hR2, hg2⟩
  have HR2 := Lib.hid hR2
  have HJ2 : Hid (J [] w2) := Lib.hid (HJr.out _ _ _ _ _ (Nat.le_succ _) HJ1.out HR1.out hg2)
  clear hR2 hg2 HR1 HJ1
  obtain ⟨B, hB⟩ : ∃ B, W0.heap.size + 1 = B := ⟨_, rfl⟩
  rw [hB] at HR2
  have hBle : W0.heap.size ≤ B := by omega
  have hstart : SeqRel s J B w2 := ⟨skipN s.data.toList 0, s.data.toList.length + 1, [], by have := skipN_ge s.data.toList 0 (by omega); simpa using this.2, HR2.out, HJ2.out, by rw [skipN_drop, skipF_skip], by simp; omega, by rw [skipN_drop, scanG_skip]; simp⟩
  have HS := Lib.hid hstart
  clear hstart HR2 HJ2
  gi_wp2
  gi_loopw [11] (fun _ wr => SeqRel s J B wr) (fun _ wr => s.size - posOf wr B)
  case atStart => exact HS.out
  case round =>
    clear HS
    obtain ⟨k, f, acc, hk, hR, hJ, hsk, hf, hsc⟩ := hrel
    have HP := Lib.hid (posOf_eq hR)
    have HR := Lib.hid hR
    have HJ := Lib.hid hJ
    have HSK := Lib.hid hsk
    have HSC := Lib.hid hsc
    have c0 : ∀ x : Later wr, x.world.cell? ⟨B, 0, none⟩ = some (.string s) := later_cell hR.cells.1
    have c1 : ∀ x : Later wr, x.world.cell? ⟨B, 1, none⟩ = some (.int .i64 (k : Int)) := later_cell hR.cells.2.1
    clear hR hJ hsk hsc
    by_cases hlt : k < s.size
    · gi_wp2_with fail
      refine wpIn_wide.2 ?_
      refine wp_region_later (by kernel_rfl) (by kernel_rfl) ?_
      repeat (go_big_quiet_step (fail))
      refine wpQuiet_nil ?_
      intro w3 hb3
      have HR3 := Lib.hid (HR.out.below hb3)
      have HJ3 := Lib.hid (HJb.out _ _ _ HJ.out hb3)
      clear c0 c1 hb3 HR HJ
      gi_wp2_with fail
      have hlk : k < s.data.toList.length := by simpa using hlt
      have hne : s.data.toList.drop k ≠ [] := by rw [drop_cons hlk]; simp
      have hlen : s.data.toList.length = s.size := by simp
      have hpos : s.data.toList.length - (s.data.toList.drop k).length = k := by simp; omega
      have HNE := Lib.hid hne
      have HPOS := Lib.hid hpos
      have HLEN := Lib.hid hlen
      clear hne hpos hlen hB
      refine ⟨trivial, (callsIn_wide.2 (next_any B s k w3 (by omega) hlt HR3.out)).mono ?_⟩
      rintro e w4 (⟨hr, tx, htx, rfl, hR4, hg4⟩ | ⟨hr, rfl, hg4⟩)
      · have HJ4 := Lib.hid (HJr.out _ _ _ _ _ hBle HJ3.out HR3.out hg4)
        have HR4 := Lib.hid hR4
        have HRI := Lib.hid hr
        have HTX := Lib.hid (eq_bytesOf htx)
        clear hr htx hR4 hg4 HR3 HJ3
        obtain ⟨kd, hkd⟩ : ∃ x, (oneT (s.data.toList.drop k)).1 = x := ⟨_, rfl⟩
        obtain ⟨tl, htl⟩ : ∃ x, (oneT (s.data.toList.drop k)).2 = x := ⟨_, rfl⟩
        rw [htl] at HTX HR4 HRI
        rw [hkd] at HRI ⊢
        have HKD := Lib.hid hkd
        have HTL := Lib.hid htl
        clear hkd htl
        obtain rfl := HTX.out
        clear HTX
        have hy0 := HY.out acc ⟨kd, tl, k⟩ w4 HJ4.out
        unfold Tok.val at hy0
        obtain ⟨fn, tmps, assign, body, hy, hRd⟩ := hy0
        have HRD := Lib.hid hRd
        clear hRd
        gi_wp2_with fail
        refine HRD.out.mono ?_
        rintro e w5 (⟨ha, rfl, hJ5, hk5⟩ | ⟨ha, rfl, hJx⟩)
        · have hR5 := hk5 _ _ _ HR4.out
          have hne2 := rightB_ne HRI.out
          have hl2 : 1 ≤ tl.length := by cases tl with | nil => exact absurd rfl hne2 | cons => simp
          have hle : k + tl.length ≤ s.size := by
            have h1 := one_size (s := s) (k := k) (tx := bytesOf tl) (by rw [list_bytesOf, HTL.out])
            have h2 : (bytesOf tl).size = tl.length := by simp [bytesOf, ByteArray.size]
            omega
          have HR5 := Lib.hid hR5
          have HJ5 := Lib.hid hJ5
          have HA := Lib.hid ha
          clear hR5 hne2 hk5 hJ5 ha hy HJ4 HR4 HRD
          gi_wp2_with fail
          refine ⟨trivial, (callsIn_wide.2 (skip_any B s (k + tl.length) w5 (by omega) hle HR5.out)).mono ?_⟩
          rintro e w6 ⟨rfl, hR6, hg6⟩
          have HR6 := Lib.hid hR6
          have HJ6 := Lib.hid (HJr.out _ _ _ _ _ hBle HJ5.out HR5.out hg6)
          have hsn := skipN_ge s.data.toList (k + tl.length) (by simpa using hle)
          clear hR6 hg6 HR5 HJ5
          gi_wp2
          go_roundw
          case rel =>
            refine ⟨skipN s.data.toList (k + tl.length), f - 1, acc ++ [⟨kd, tl, k⟩], by simpa using hsn.2, HR6.out, HJ6.out, by rw [skipN_drop, skipF_skip], ?_, ?_⟩
            · have := hsn.1; omega
            · rw [← HSC.out]
              obtain ⟨f', rfl⟩ : ∃ f', f = f' + 1 := ⟨f - 1, by omega⟩
              obtain ⟨f'', rfl⟩ : ∃ f'', f' = f'' + 1 := ⟨f' - 1, by omega⟩
              rw [scanG_next HSK.out HNE.out (by rw [HKD.out, HTL.out]; exact HRI.out) HA.out, HKD.out, HTL.out, HPOS.out, List.drop_drop, skipN_drop]
              exact scanG_skip _ _ _ _
          case measure =>
            rw [posOf_eq HR6.out, HP.out]
            have := hsn.1; have := hsn.2; have := HLEN.out; omega
        · have HA := Lib.hid ha
          have HJx := Lib.hid hJx
          clear ha hJx hy HJ4 HR4 HRD
          gi_wp2
          go_end0
          refine .inr (.inl ?_)
          rw [← HSC.out]
          obtain ⟨f', rfl⟩ : ∃ f', f = f' + 1 := ⟨f - 1, by omega⟩
          rw [scanG_full HSK.out HNE.out (by rw [HKD.out, HTL.out]; exact HRI.out) HA.out, HPOS.out]
          exact ⟨rfl, rfl, rfl, HJx.out⟩
      · have HJ4 := Lib.hid (HJr.out _ _ _ _ _ hBle HJ3.out HR3.out hg4)
        have HRI := Lib.hid hr
        clear hr hg4 HJ3 HR3
        gi_wp2
        refine ⟨rfl, .inr (.inr ?_)⟩
        rw [← HSC.out]
        obtain ⟨f', rfl⟩ : ∃ f', f = f' + 1 := ⟨f - 1, by omega⟩
        rw [scanG_bad HSK.out HNE.out HRI.out, HPOS.out]
        exact ⟨rfl, rfl, rfl, acc, HJ4.out⟩
    · obtain rfl : k = s.size := by omega
      gi_wp2_with fail
      refine wpIn_wide.2 ?_
      refine wp_region_later (by kernel_rfl) (by kernel_rfl) ?_
      repeat (go_big_quiet_step (fail))
      refine wpQuiet_nil ?_
      intro w3 hb3
      have HJ3 := Lib.hid (HJb.out _ _ _ HJ.out hb3)
      clear c0 c1 hb3 HR HJ
      gi_wp2
      go_end0
      refine .inl ?_
      rw [← HSC.out]
      obtain ⟨f', rfl⟩ : ∃ f', f = f' + 1 := ⟨f - 1, by omega⟩
      rw [show s.data.toList.drop s.size = [] from List.drop_eq_nil_of_le (by simp), scanG_end]
      exact ⟨rfl, rfl, HJ3.out⟩
end Go.Proofs.YtiledamgmppcmaaGreatDoor
/-! LexK -/
namespace Go.Proofs.YtiledamgmppcmaaGreatDoor
open Go.RowKit

attribute [local go_sem] Oper.semAt_some

theorem tokens_any (s : ByteArray) (w : World) :
    Calls Tryz.prog 81 #[.string s] w fun e w' => e = .returned (.func (.func 129) #[] #[.pointer (some ⟨w.heap.size, 0, none⟩)]) ∧ w.alloc (.cells #[.string s] 9) = w' := by
  have hmf : ∀ (fn : Fn) (first cap : Array Value) (w : World), (Instr.makeFunc fn first cap).run Tryz.prog w = .ok (.func fn first cap) w := fun _ _ _ _ => rfl
  go_enter Tryz.func81, Tryz.ntmps81
  go_wp2
  go_ret
  exact ⟨rfl, rfl⟩

set_option maxRecDepth 100000 in
theorem scan1_idle (n : Nat) (p0 p1 p2 : Addr) (w : World) :
    CallsDIn Fence.wide n Tryz.prog 80 #[.pointer (some p0), .pointer (some p1), .pointer (some p2)] .returning w fun e u' w' => e = .returned (.tuple #[]) ∧ u' = .returning ∧ Below w.heap.size w w' := by
  have hta : ∀ w, (Instr.typeAssert .nilIface 20 146 true).run Tryz.prog w = .ok (.tuple #[.agg #[.int .i64 0], .bool false]) w := fun _ => by kernel_rfl
  refine callsDIn_of_wpSIn Tryz.func80 rfl trivial fun c₀ cs hu => ?_
  simp only [Tryz.ntmps80, List.size_toArray, List.length_cons, List.length_nil, Nat.reduceAdd, Nat.reduceSub, Array.replicate_succ, Array.replicate_zero, List.push_toArray, List.append_toArray, List.nil_append, List.cons_append]
  apply wpSIn_seq
  apply wpSIn_region
  simp [wpOpsSIn, go_sem, recoverD, hu, hta, Exit.thenS]
  refine wpSIn_of_wpIn rfl (wpIn_wide.2 ?_)
  go_wp2
  cases c₀
  simp_all [bodyPostS, results, Tryz.results80]
  exact (Below.refl _ _).alloc (Nat.le_refl _) _

set_option maxRecDepth 100000 in
set_option maxHeartbeats 1000000 in
theorem scan1_bad (n b0 : Nat) (k : Int) (older : List PanicEntry) (w : World) (v0 v1 v2 : Value) (hc0 : w.cell? ⟨b0, 0, none⟩ = some v0) (hc1 : w.cell? ⟨b0 + 1, 0, none⟩ = some v1) (hc2 : w.cell? ⟨b0 + 2, 0, none⟩ = some v2)
    (hz0 : w.frozen? ⟨b0, 0, none⟩ = false) (hz1 : w.frozen? ⟨b0 + 1, 0, none⟩ = false) (hz2 : w.frozen? ⟨b0 + 2, 0, none⟩ = false) (hlt : b0 + 2 < w.heap.size) :
    CallsDIn Fence.wide n Tryz.prog 80 #[.pointer (some ⟨b0, 0, none⟩), .pointer (some ⟨b0 + 1, 0, none⟩), .pointer (some ⟨b0 + 2, 0, none⟩)] (.panicking ({ v := .iface 146 (.agg #[.int .i64 k]), recovered := false } :: older)) w fun e u' w' =>
      e = .returned (.tuple #[]) ∧ u' = .panicking ({ v := .iface 146 (.agg #[.int .i64 k]), recovered := true } :: older) ∧
      ∃ w2, Below w.heap.size w w2 ∧ (((w2.setCell ⟨b0, 0, none⟩ (.slice none 0 0)).setCell ⟨b0 + 1, 0, none⟩ (.int .i64 k)).setCell ⟨b0 + 2, 0, none⟩ (.int .i64 340)).drew = w' := by
  have hta : ∀ w, (Instr.typeAssert (.iface 146 (.agg #[.int .i64 k])) 20 146 true).run Tryz.prog w = .ok (.tuple #[.agg #[.int .i64 k], .bool true]) w := fun _ => by kernel_rfl
  refine callsDIn_of_wpSIn Tryz.func80 rfl trivial fun c₀ cs hu => ?_
  simp only [Tryz.ntmps80, List.size_toArray, List.length_cons, List.length_nil, Nat.reduceAdd, Nat.reduceSub, Array.replicate_succ, Array.replicate_zero, List.push_toArray, List.append_toArray, List.nil_append, List.cons_append]
  apply wpSIn_seq
  apply wpSIn_region
  simp [wpOpsSIn, go_sem, recoverD, hu, hta, Exit.thenS]
  refine wpSIn_of_wpIn rfl (wpIn_wide.2 ?_)
  have HU := Lib.hid hu
  clear hu
  refine wp_world (F := fun w2 => Below w.heap.size w w2 ∧ w2.cell? ⟨w.heap.size, 0, none⟩ = some (.int .i64 k) ∧ w.heap.size < w2.heap.size) ⟨(Below.refl _ _).alloc (Nat.le_refl _) _, World.cell?_alloc_at (hn := by simp) .., by simp⟩ ?_
  rintro w2 ⟨hB, hc, hs⟩
  have d0 := below_cell hB hc0
  have d1 := below_cell hB hc1
  have d2 := below_cell hB hc2
  have f0 := (hB.frozen (p := ⟨b0, 0, none⟩) (by show b0 < _; omega)).trans hz0
  have f1 := (hB.frozen (p := ⟨b0 + 1, 0, none⟩) (by show b0 + 1 < _; omega)).trans hz1
  have f2 := (hB.frozen (p := ⟨b0 + 2, 0, none⟩) (by show b0 + 2 < _; omega)).trans hz2
  have n0 : ¬ b0 = w.heap.size := by omega
  have n1 : ¬ b0 + 1 = w.heap.size := by omega
  have n2 : ¬ b0 + 2 = w.heap.size := by omega
  have n3 : ¬ w.heap.size = b0 := by omega
  have HB := Lib.hid hB
  clear hB hc0 hc1 hc2 hz0 hz1 hz2
  go_wp2_with fail
  go_region
  go_wp2_with fail
  exact ⟨rfl, _, rfl, _, results_none rfl _ _ _, rfl, rfl, w2, HB.out, rfl⟩
end Go.Proofs.YtiledamgmppcmaaGreatDoor
/-! Range -/
namespace Go.Proofs.YtiledamgmppcmaaGreatDoor
open Go.RowKit

/-- How a round may end. -/
def roundEnd (l : Nat) (ρ : LoopState → Option Code → Loop) (R : Ending → World → Prop) : Exit → Act → World → Prop
  | .normal, _, W => W.heap[l]? = some (.loop (ρ .busy none)) ∧ R (.returned (.bool true)) (W.putObj l (.loop (ρ .ready none)))
  | .ret, _, W => W.heap[l]? = some (.loop (ρ .busy none)) ∧ R (.returned (.bool false)) (W.putObj l (.loop (ρ .done (some .ret))))
  | .exit id, _, W => W.heap[l]? = some (.loop (ρ .busy none)) ∧ R (.returned (.bool false)) (W.putObj l (.loop (ρ .done (some (.exit id)))))
  | _, _, _ => False

/-- What follows the loop, by how the iterator has ended. -/
def rangeEnd (F : Fence) (n : Nat) (P : Program) (l : Nat) (ρ : LoopState → Option Code → Loop) (Q : Exit → Act → World → Prop) (a' : Act) : Ending → World → Prop
  | .returned _, W => (W.heap[l]? = some (.loop (ρ .ready none)) ∧ Q .normal a' (W.putObj l (.loop (ρ .exhausted none)))) ∨
      ∃ c, W.heap[l]? = some (.loop (ρ .done (some c))) ∧ c.wpIn F n P Q a' (W.putObj l (.loop (ρ .exhausted (some c))))
  | .panicked chain, W => Q (.panic chain) a' W
  | .outgrown, _ => LetsOut Q

theorem wpIn_rangeFunc_raw {F : Fence} {n : Nat} {P : Program} {g : Operand} {ps : Array Tmp} {assign body : Code} {Q : Exit → Act → World → Prop} {a : Act} {w : World}
    (hro : F.round = none) (h1 : 1 ≤ n) {gf : Nat} {lb : Array Value} (hg : a.eval g = .func (.func gf) #[] lb) (hFg : F.fn gf) (eg : ∀ args w, (callFunc gf args).run P w = .ok (.enter gf args) w)
    (h : ∀ (ρ : LoopState → Option Code → Loop),
      (∀ (args : Array Value) (W : World) (R : Ending → World → Prop), args.size = ps.size → W.heap[w.heap.size + 1]? = some (.loop (ρ .ready none)) →
        assign.wpIn (F.inRound (w.heap.size + 1)) (n - 1 - 1) P (Exit.then (fun a₁ w₁ => w₁.heap[w.heap.size + 1]? = some (.loop (ρ .ready none)) ∧
          body.wpIn (F.inRound (w.heap.size + 1)) (n - 1 - 1) P (roundEnd (w.heap.size + 1) ρ R) a₁ (w₁.putObj (w.heap.size + 1) (.loop (ρ .busy none)))) (fun _ _ _ => False))
          { tmps := (ps.zip args).foldl (fun t (p, v) => t.setIfInBounds p v) a.tmps, defers := [] } W →
        YieldAt F (n - 1 - 1) P (w.heap.size + 1) args W R) →
      CallsIn F (n - 1) P gf (#[.func (.yield (w.heap.size + 1)) #[] #[]] ++ lb) ((w.alloc (.deferred (some []))).alloc (.loop (ρ .ready none)))
        (rangeEnd F n P (w.heap.size + 1) ρ Q { a with defers := { target := .collected w.heap.size, args := #[] } :: a.defers })) :
    (Code.rangeFunc g ps assign body).wpIn F n P Q a w := by
  refine wpIn_rangeFunc ?_
  intro fn hfn
  rw [hro]
  obtain ⟨ρ, hρ⟩ : ∃ ρ : LoopState → Option Code → Loop, ρ = fun st pe => { state := st, pending := pe, fn, tmps := a.tmps, params := ps, assign, body, defers := w.heap.size } := ⟨_, rfl⟩
  obtain ⟨W1, hW1⟩ : ∃ W1, (w.alloc (.deferred (some []))).alloc (.loop (ρ .ready none)) = W1 := ⟨_, rfl⟩
  refine ⟨w.heap.size + 1, [{ target := .collected w.heap.size, args := #[] }], W1, { target := .fn (.func gf) lb, args := #[.func (.yield (w.heap.size + 1)) #[] #[]] }, W1, gf,
    #[.func (.yield (w.heap.size + 1)) #[] #[]] ++ lb, W1, ?_, ?_, ?_, ?_, fun _ => h1, ?_⟩
  · rw [← hW1, hρ]; exact run_enterLoop_outer _ _ _ _ _
  · simp only [resolve, hg]
    simp [go_sem]
  · intro f' hf'; simp [Target.leads] at hf'; subst hf'; exact hFg
  · simp [invoke, go_sem, eg]
  · rw [← hW1]
    refine (h ρ ?_).mono ?_
    · intro args W R hsz hl hw
      have hlt : w.heap.size + 1 < W.heap.size := (Array.getElem?_eq_some_iff.1 hl).1
      have hy := run_yield (P := P) (args := args) hl (by rw [hρ]; exact hsz)
      have e1 : ∀ st pe, (ρ st pe).fn = fn := by rw [hρ]; intros; rfl
      have e2 : ∀ st pe, (ρ st pe).tmps = a.tmps := by rw [hρ]; intros; rfl
      have e3 : ∀ st pe, (ρ st pe).params = ps := by rw [hρ]; intros; rfl
      have e4 : ∀ st pe, (ρ st pe).assign = assign := by rw [hρ]; intros; rfl
      have e5 : ∀ st pe, (ρ st pe).body = body := by rw [hρ]; intros; rfl
      have e6 : ∀ st pe st' pe', ({ ρ st pe with state := st', pending := pe' } : Loop) = ρ st' pe' := by rw [hρ]; intros; rfl
      have e7 : ∀ st pe, (ρ st pe).state = st := by rw [hρ]; intros; rfl
      have e8 : ∀ st pe st', ({ ρ st pe with state := st' } : Loop) = ρ st' pe := by rw [hρ]; intros; rfl
      have e9 : ∀ st pe, (ρ st pe).pending = pe := by rw [hρ]; intros; rfl
      rw [e1, e2, e3, e4, e5] at hy
      refine ⟨fn, _, assign, body, hy, roundIn_of_wpIn hfn (wpIn_mono hw ?_)⟩
      intro e a₁ w₁ he
      cases e with
      | normal =>
        obtain ⟨hl1, hb⟩ := he
        refine ⟨_, run_beginRound hl1 (e7 _ _), ?_⟩
        rw [e8]
        refine wpIn_mono hb ?_
        intro e a₂ w₂ he
        cases e with
        | normal => exact ⟨_, _, run_endRound none he.1, by have := he.2; simp only [Option.isNone_none, if_true, e6]; exact this⟩
        | ret => exact ⟨_, _, run_endRound (some .ret) he.1, by have := he.2; simp only [Option.isNone_some, Bool.false_eq_true, if_false, e6]; exact this⟩
        | exit id => exact ⟨_, _, run_endRound (some (.exit id)) he.1, by have := he.2; simp only [Option.isNone_some, Bool.false_eq_true, if_false, e6]; exact this⟩
        | goto t => exact he.elim
        | panic c => exact he.elim
        | outgrown => exact he.elim
      | ret => exact he.elim
      | exit id => exact he.elim
      | goto t => exact he.elim
      | panic c => exact he.elim
      | outgrown => exact he.elim
    · have e7 : ∀ st pe, (ρ st pe).state = st := by rw [hρ]; intros; rfl
      have e8 : ∀ st pe st', ({ ρ st pe with state := st' } : Loop) = ρ st' pe := by rw [hρ]; intros; rfl
      have e9 : ∀ st pe, (ρ st pe).pending = pe := by rw [hρ]; intros; rfl
      intro e W he
      cases e with
      | returned v =>
        rcases he with ⟨hl, hq⟩ | ⟨c, hl, hq⟩
        · refine ⟨none, _, by rw [run_endLoop hl (by rw [e7]; simp), e8, e9], hq⟩
        · refine ⟨some c, _, by rw [run_endLoop hl (by rw [e7]; simp), e8, e9], hq⟩
      | panicked chain => exact he
      | outgrown => exact he
end Go.Proofs.YtiledamgmppcmaaGreatDoor
/-! LexL -/
namespace Go.Proofs.YtiledamgmppcmaaGreatDoor
open Go.RowKit Go.Shelf

attribute [local go_sem] Oper.semAt_some

/-- A slice of tokens of the call's own. -/
def ToksAt (w : World) (base : Nat) (v : Value) (l : List Tok) : Prop := w.ownsRow base 47 3 v l.length (tokCells l)

def ScanPost (s : ByteArray) (w : World) (e : Ending) (w' : World) : Prop :=
  ∃ v : Value, e = .returned (.tuple #[v, .int .i64 ((scanT s.data.toList).2.1 : Int), .int .i64 (scanT s.data.toList).2.2]) ∧ ToksAt w' w.heap.size v (scanT s.data.toList).1 ∧ Below w.heap.size w w'

def Blk (W : World) (b : Nat) (v : Value) (t : TypeId) : Prop := W.heap[b]? = some (.cells #[v] t (0, 0))
theorem Blk.cell {W : World} {b : Nat} {v : Value} {t : TypeId} (h : Blk W b v t) : W.cell? ⟨b, 0, none⟩ = some v := Boxed.cell h
theorem Blk.free {W : World} {b : Nat} {v : Value} {t : TypeId} (h : Blk W b v t) : W.frozen? ⟨b, 0, none⟩ = false := Boxed.frozen h

/-- Between two rounds. -/
structure ScanJ (w : World) (ρ : Loop) (acc : List Tok) (W : World) : Prop where
  row : ∃ v, Blk W w.heap.size v 44 ∧ W.ownsRow w.heap.size 47 3 v acc.length (tokCells acc)
  at_ : Blk W (w.heap.size + 1) (.int .i64 0) 3
  err : Blk W (w.heap.size + 2) (.int .i64 0) 31
  mark : W.heap[w.heap.size + 4]? = some (.deferred (some []))
  loop : W.heap[w.heap.size + 5]? = some (.loop ρ)
  len : acc.length ≤ 2000
  below : Below w.heap.size w W
/-- A round has said that there are too many. -/
structure ScanJx (w : World) (ρ : Loop) (pos : Nat) (W : World) : Prop where
  row : Blk W w.heap.size (.slice none 0 0) 44
  at_ : Blk W (w.heap.size + 1) (.int .i64 pos) 3
  err : Blk W (w.heap.size + 2) (.int .i64 3) 31
  mark : W.heap[w.heap.size + 4]? = some (.deferred (some []))
  loop : W.heap[w.heap.size + 5]? = some (.loop ρ)
  below : Below w.heap.size w W

theorem lt_some {W : World} {b : Nat} {o : Obj} (h : W.heap[b]? = some o) : b < W.heap.size := (Array.getElem?_eq_some_iff.1 h).1
theorem grown_of_below {W W' : World} (h : Below W.heap.size W W') : W.grownBy W' none := ⟨h.os, h.tape, h.output, h.size, fun k hk _ => h.block k hk⟩
theorem ScanJ.kept {w : World} {ρ : Loop} {acc : List Tok} {W W' : World} (h : ScanJ w ρ acc W) {r : Option Nat} (hg : W.grownBy W' r)
    (hr : ∀ b, r = some b → ∃ (C : Array Value) (t : TypeId), W.heap[b]? = some (.cells C t (0, 0)) ∧ t ≠ 44 ∧ t ≠ 3 ∧ t ≠ 31 ∧ t ≠ 47 ∧ w.heap.size ≤ b) : ScanJ w ρ acc W' := by
  have key : ∀ (b : Nat) (o : Obj), W.heap[b]? = some o → (∀ (C : Array Value) (t : TypeId), o = Obj.cells C t (0, 0) → t = 44 ∨ t = 3 ∨ t = 31 ∨ t = 47) → W'.heap[b]? = some o := by
    intro b o hb ho
    refine (hg.block b (lt_some hb) ?_).trans hb
    rintro e
    obtain ⟨C, t, hc, h1, h2, h3, h4, _⟩ := hr b e.symm
    rw [hb] at hc; cases hc
    rcases ho C t rfl with h | h | h | h <;> contradiction
  obtain ⟨v, hv, ho⟩ := h.row
  refine ⟨⟨v, key _ _ hv (by rintro C t e; cases e; simp), ?_⟩, key _ _ h.at_ (by rintro C t e; cases e; simp), key _ _ h.err (by rintro C t e; cases e; simp),
    key _ _ h.mark (by rintro C t e; cases e), key _ _ h.loop (by rintro C t e; cases e), h.len, h.below.grown hg h.below.size (fun b e => by obtain ⟨_, _, _, _, _, _, _, hb⟩ := hr b e; exact hb)⟩
  refine ho.kept hg ?_
  rcases ho.2 with ⟨rfl, _⟩ | ⟨g, cap, cur, rfl, hb, hh, _⟩
  · exact .inl rfl
  · refine .inr ?_
    intro e
    obtain ⟨C, t, hc, h1, h2, h3, h4, _⟩ := hr g (by rw [← e]; rfl)
    rw [hh] at hc; cases hc; exact h4 rfl

theorem info_tok : (Tryz.prog.info? 47).map (fun i => (i.zero, i.size, i.bytes)) = some (some (.agg #[.int .i64 0, .string ⟨#[]⟩, .int .i64 0]), 3, 32) := by kernel_rfl
theorem und_toks : Tryz.prog.underlying 44 = some (.slice 47) := by kernel_rfl

def scanW (w : World) (s : ByteArray) : World := (((w.alloc (.cells #[.slice none 0 0] 44)).alloc (.cells #[.int .i64 0] 3)).alloc (.cells #[.int .i64 0] 31)).alloc (.cells #[.string s] 9)
theorem scanW_size (w : World) (s : ByteArray) : (scanW w s).heap.size = w.heap.size + 4 := by simp [scanW]
theorem scanW_below (w : World) (s : ByteArray) : Below w.heap.size w (scanW w s) :=
  ((((Below.refl _ _).alloc (Nat.le_refl _) _).alloc (by simp) _).alloc (by simp; omega) _).alloc (by simp; omega) _
theorem heap_alloc_at {w : World} {o : Obj} {b : Nat} (h : b = w.heap.size) : (w.alloc o).heap[b]? = some o := by subst h; exact heap_alloc_new w o
theorem heap_alloc_lt {w : World} {o o' : Obj} {b : Nat} (h : w.heap[b]? = some o') : (w.alloc o).heap[b]? = some o' := (Below.heap_alloc w o b (lt_some h)).trans h
theorem scanW_str (w : World) (s : ByteArray) : Blk (scanW w s) (w.heap.size + 3) (.string s) 9 := heap_alloc_at (by simp)
theorem scanJ_start (w : World) (s : ByteArray) (ρ : Loop) : ScanJ w ρ [] (((scanW w s).alloc (.deferred (some []))).alloc (.loop ρ)) := by
  refine ⟨⟨_, heap_alloc_lt (heap_alloc_lt (heap_alloc_lt (heap_alloc_lt (heap_alloc_lt (heap_alloc_at rfl))))), World.ownsRow_nil _ _ _ _⟩, heap_alloc_lt (heap_alloc_lt (heap_alloc_lt (heap_alloc_lt (heap_alloc_at (by simp))))),
    heap_alloc_lt (heap_alloc_lt (heap_alloc_lt (heap_alloc_at (by simp)))), heap_alloc_lt (heap_alloc_at (by simp [scanW_size])), heap_alloc_at (by simp [scanW_size]), by simp, ?_⟩
  exact ((scanW_below w s).alloc (by simp [scanW_size]) _).alloc (by simp [scanW_size]; omega) _

/-- Readers lie as they lay. -/
def KR (W W' : World) : Prop := ∀ (b : Nat) (C : Array Value) (f : Nat × Nat), W.heap[b]? = some (.cells C 193 f) → W'.heap[b]? = some (.cells C 193 f)
theorem KR.trans {A B C : World} (h : KR A B) (k : KR B C) : KR A C := fun b c f hb => k b c f (h b c f hb)
theorem KR.rd {W W' : World} (h : KR W W') : KeepsRd W W' := fun b _ _ hb => h b _ _ hb
theorem KR.grown {W W' : World} {r : Option Nat} (hg : W.grownBy W' r) (hr : ∀ b, r = some b → ∃ o, W.heap[b]? = some o ∧ ∀ (C : Array Value) (f : Nat × Nat), o ≠ Obj.cells C 193 f) : KR W W' := by
  intro b C f hb
  refine (hg.block b (lt_some hb) ?_).trans hb
  intro e
  obtain ⟨o, ho, hn⟩ := hr b e.symm
  rw [hb] at ho; cases ho
  exact hn C f rfl
theorem KR.put {W : World} {l : Nat} {ρ : Loop} (o' : Obj) (h : W.heap[l]? = some (.loop ρ)) : KR W (W.putObj l o') :=
  KR.grown (grownBy_putObj' W l o') (fun b e => by cases e; exact ⟨_, h, fun _ _ e => by cases e⟩)
theorem KR.set {W : World} {b : Nat} {t : TypeId} {u : Value} (v : Value) (h : Boxed W b t u) (ht : t ≠ 193) : KR W (W.setCell ⟨b, 0, none⟩ v) :=
  KR.grown (grownBy_setCell' W b v) (fun b' e => by cases e; exact ⟨_, h, fun _ _ e => by cases e; exact ht rfl⟩)
theorem KR.alloc (W : World) (o : Obj) : KR W (W.alloc o) := fun _ _ _ hb => heap_alloc_lt hb

theorem blk_put {W : World} {b l : Nat} {o o' : Obj} (h : W.heap[b]? = some o) (hne : b ≠ l) : (W.putObj l o').heap[b]? = some o := (World.putObj_heap_other hne).trans h
theorem ScanJ.put {w : World} {ρ : Loop} {acc : List Tok} {W : World} (h : ScanJ w ρ acc W) (ρ' : Loop) : ScanJ w ρ' acc (W.putObj (w.heap.size + 5) (.loop ρ')) := by
  obtain ⟨v, hv, ho⟩ := h.row
  refine ⟨⟨v, blk_put hv (by omega), ownsRow_putObj ho _ h.loop rfl⟩, blk_put h.at_ (by omega), blk_put h.err (by omega), blk_put h.mark (by omega), World.putObj_heap_same (lt_some h.loop), h.len, ?_⟩
  exact h.below.grown (grownBy_putObj' W _ _) h.below.size (fun b e => by cases e; omega)
theorem ScanJx.put {w : World} {ρ : Loop} {pos : Nat} {W : World} (h : ScanJx w ρ pos W) (ρ' : Loop) : ScanJx w ρ' pos (W.putObj (w.heap.size + 5) (.loop ρ')) := by
  refine ⟨blk_put h.row (by omega), blk_put h.at_ (by omega), blk_put h.err (by omega), blk_put h.mark (by omega), World.putObj_heap_same (lt_some h.loop), ?_⟩
  exact h.below.grown (grownBy_putObj' W _ _) h.below.size (fun b e => by cases e; omega)

theorem set_other {W : World} {b b' : Nat} {o : Obj} (h : W.heap[b]? = some o) (hne : b ≠ b') (v : Value) : (W.setCell ⟨b', 0, none⟩ v).heap[b]? = some o := (Below.heap_setCell W ⟨b', 0, none⟩ v b hne).trans h

theorem ScanJ.appended {w : World} {ρ : Loop} {acc : List Tok} {W2 w1 : World} {v v' : Value} {tmp : Obj} (t : Tok) (h : ScanJ w ρ acc W2) (hv : Blk W2 w.heap.size v 44)
    (hrow : W2.ownsRow w.heap.size 47 3 v acc.length (tokCells acc)) (hown' : w1.ownsRow w.heap.size 47 3 v' (acc.length + 1) (tokCells acc ++ t.cells))
    (hgrow : (W2.alloc tmp).grownBy w1 v.ownBlock) (hlen : acc.length ≠ 2000) :
    Boxed w1 w.heap.size 44 v ∧ ScanJ w ρ (acc ++ [t]) (w1.setCell ⟨w.heap.size, 0, none⟩ v') ∧ KR W2 (w1.setCell ⟨w.heap.size, 0, none⟩ v') := by
  obtain ⟨hv1, hv2, hr2, hk2, hb2⟩ := Boxed.appended hv (by decide) hrow h.below.size (Nat.le_refl _) hown' hgrow
  have hs : ∀ (b : Nat) (u : Value) (ty : TypeId), Blk W2 b u ty → ty ≠ 47 → b ≠ w.heap.size → Blk (w1.setCell ⟨w.heap.size, 0, none⟩ v') b u ty := by
    intro b u ty hb ht hne
    have h1 : Boxed w1 b ty u := (Boxed.alloc hb tmp).kept hgrow (Boxed.not_row hb ht hrow)
    exact set_other h1 hne v'
  refine ⟨hv1, ⟨⟨v', hv2, by rw [tokCells_snoc, List.length_append]; exact hr2⟩, hs _ _ _ h.at_ (by decide) (by omega), hs _ _ _ h.err (by decide) (by omega), hk2.same _ _ h.mark rfl, hk2.same _ _ h.loop rfl,
    by rw [List.length_append]; have := h.len; simp; omega, h.below.trans hb2⟩, ?_⟩
  refine ((KR.alloc W2 tmp).trans (KR.grown hgrow ?_)).trans (KR.set v' hv1 (by decide))
  intro b e
  rcases hrow.2 with ⟨rfl, _⟩ | ⟨g, cap, cur, rfl, _, hh, _⟩
  · simp [Value.ownBlock] at e
  · obtain rfl : g = b := by simpa [Value.ownBlock] using e
    exact ⟨_, heap_alloc_lt hh, fun C f e => by cases e⟩

/-- The deferred call of Scan, where nothing has panicked; and what is handed back. -/
theorem scan_leave (w X : World) (tmps : Array Value) (v : Value) (toks : List Tok) (pos : Nat) (err : Int) (R : Ending → World → Prop)
    (h0 : Blk X w.heap.size v 44) (h1 : Blk X (w.heap.size + 1) (.int .i64 pos) 3) (h2 : Blk X (w.heap.size + 2) (.int .i64 err) 31)
    (hm : X.heap[w.heap.size + 4]? = some (.deferred (some []))) (ho : ToksAt X w.heap.size v toks) (hb : Below w.heap.size w X)
    (hres : ∀ X' : World, X'.cell? ⟨w.heap.size, 0, none⟩ = some v → X'.cell? ⟨w.heap.size + 1, 0, none⟩ = some (.int .i64 pos) → X'.cell? ⟨w.heap.size + 2, 0, none⟩ = some (.int .i64 err) →
      (results Tryz.f35 tmps).run Tryz.prog X' = .ok (.tuple #[v, .int .i64 pos, .int .i64 err]) X')
    (hR : ∀ X', ToksAt X' w.heap.size v toks → Below w.heap.size w X' → R (.returned (.tuple #[v, .int .i64 pos, .int .i64 err])) X') :
    LeavesInM Fence.wide 6 Tryz.prog Tryz.f35 tmps R [{ target := .collected (w.heap.size + 4), args := #[] }, { target := .fn (.func 80) #[.pointer (some ⟨w.heap.size, 0, none⟩), .pointer (some ⟨w.heap.size + 1, 0, none⟩), .pointer (some ⟨w.heap.size + 2, 0, none⟩)], args := #[] }] .returning X := by
  refine ⟨by simp, .inl ⟨_, _, rfl, run_takeDeferred hm, ?_⟩⟩
  have h0' := blk_put (o' := .deferred none) h0 (show w.heap.size ≠ w.heap.size + 4 by omega)
  have h1' := blk_put (o' := .deferred none) h1 (show w.heap.size + 1 ≠ w.heap.size + 4 by omega)
  have h2' := blk_put (o' := .deferred none) h2 (show w.heap.size + 2 ≠ w.heap.size + 4 by omega)
  have ho' : ToksAt (X.putObj (w.heap.size + 4) (.deferred none)) w.heap.size v toks := ownsRow_putObj ho _ hm rfl
  have hb' := hb.grown (grownBy_putObj' X (w.heap.size + 4) (.deferred none)) hb.size (fun b e => by cases e; omega)
  refine ⟨by simp, .inr ⟨by simp [Fence.wide], .func 80, _, 80, #[.pointer (some ⟨w.heap.size, 0, none⟩), .pointer (some ⟨w.heap.size + 1, 0, none⟩), .pointer (some ⟨w.heap.size + 2, 0, none⟩)], rfl, by simp [go_sem], fun _ _ => trivial, ?_⟩⟩
  refine (scan1_idle _ _ _ _ _).mono ?_
  rintro e u' X2 ⟨rfl, rfl, hb2⟩
  refine ⟨_, hres X2 (Blk.cell ((hb2.block _ (lt_some h0')).trans h0')) (Blk.cell ((hb2.block _ (lt_some h1')).trans h1')) (Blk.cell ((hb2.block _ (lt_some h2')).trans h2')), ?_⟩
  exact hR X2 (ho'.kept (grown_of_below hb2) (by rcases ho'.2 with ⟨rfl, _⟩ | ⟨g, cap, cur, rfl, _⟩ <;> simp [Value.ownBlock])) (hb'.trans (hb2.mono hb'.size))

theorem ScanJ.stored {w X : World} {ρ : Loop} {acc : List Tok} {v : Value} (h : ScanJ w ρ acc X) (hv : Blk X w.heap.size v 44) (hrow : X.ownsRow w.heap.size 47 3 v acc.length (tokCells acc)) (R : World → Prop)
    (k : ∀ Y, Blk Y w.heap.size v 44 → Blk Y (w.heap.size + 1) (.int .i64 0) 3 → Blk Y (w.heap.size + 2) (.int .i64 0) 31 → Y.heap[w.heap.size + 4]? = some (.deferred (some [])) → ToksAt Y w.heap.size v acc → Below w.heap.size w Y → R Y) :
    R (((X.setCell ⟨w.heap.size, 0, none⟩ v).setCell ⟨w.heap.size + 1, 0, none⟩ (.int .i64 0)).setCell ⟨w.heap.size + 2, 0, none⟩ (.int .i64 0)) := by
  have b1 : Boxed (X.setCell ⟨w.heap.size, 0, none⟩ v) (w.heap.size + 1) 3 (.int .i64 0) := set_other h.at_ (by omega) _
  have b2 : Boxed (X.setCell ⟨w.heap.size, 0, none⟩ v) (w.heap.size + 2) 31 (.int .i64 0) := set_other h.err (by omega) _
  have b2' : Boxed ((X.setCell ⟨w.heap.size, 0, none⟩ v).setCell ⟨w.heap.size + 1, 0, none⟩ (.int .i64 0)) (w.heap.size + 2) 31 (.int .i64 0) := set_other b2 (by omega) _
  have r1 := hrow.kept (grownBy_setCell' X w.heap.size v) (.inr (Boxed.not_row hv (by decide) hrow).symm)
  have r2 := r1.kept (grownBy_setCell' _ (w.heap.size + 1) (.int .i64 0)) (.inr (Boxed.not_row b1 (by decide) r1).symm)
  have r3 := r2.kept (grownBy_setCell' _ (w.heap.size + 2) (.int .i64 0)) (.inr (Boxed.not_row b2' (by decide) r2).symm)
  refine k _ (set_other (set_other (Boxed.set _ hv) (by omega) _) (by omega) _) (set_other (Boxed.set _ b1) (by omega) _) (Boxed.set _ b2') (set_other (set_other (set_other h.mark (by omega) _) (by omega) _) (by omega) _) r3 ?_
  exact ((h.below.setCell (p := ⟨w.heap.size, 0, none⟩) (Nat.le_refl _) _).setCell (p := ⟨w.heap.size + 1, 0, none⟩) (Nat.le_succ _) _).setCell (p := ⟨w.heap.size + 2, 0, none⟩) (by show _ ≤ _ + 2; omega) _
theorem scanT_short {l : List UInt8} (h : l.length ≤ 20000) : scanT l = scanG l.length (l.length + 1) l [] := by unfold scanT; rw [if_neg (by omega)]

theorem scanG_ok (n f : Nat) (l : List UInt8) (acc : List Tok) (h : (scanG n f l acc).2.2 = 0) : (scanG n f l acc).2.1 = 0 := by
  induction f generalizing l acc with
  | zero => rfl
  | succ f ih =>
    rw [scanG] at h ⊢
    split
    · rfl
    · rename_i h1
      rw [if_neg h1] at h
      split
      · rename_i h2; rw [if_pos h2] at h; simp at h
      · rename_i h2
        rw [if_neg h2] at h
        split
        · rename_i h3; rw [if_pos h3] at h; simp at h
        · rename_i h3; rw [if_neg h3] at h; exact ih _ _ h

set_option maxRecDepth 100000 in
set_option maxHeartbeats 4000000 in
theorem scan_short (s : ByteArray) (w : World) (hs : s.size ≤ 20000) : Calls Tryz.prog 35 #[.string s] w (ScanPost s w) := by
  refine (callsIn_wide (n := 6)).1 ?_
  have hmf : ∀ (fn : Fn) (first cap : Array Value) (w : World), (Instr.makeFunc fn first cap).run Tryz.prog w = .ok (.func fn first cap) w := fun _ _ _ _ => rfl
  refine callsIn_of_wp_marks Tryz.func35 rfl trivial ?_ rfl
  simp only [Tryz.ntmps35, List.size_toArray, List.length_cons, List.length_nil, Nat.reduceAdd, Nat.reduceSub, Array.replicate_succ, Array.replicate_zero, List.push_toArray, List.append_toArray, List.nil_append, List.cons_append]
  have hdec : decide (20000 < (s.size : Int)) = false := by simp; omega
  gi_wp2_with fail
  refine ⟨trivial, (callsIn_wide.2 (tokens_any s _)).mono ?_⟩
  rintro e w' ⟨rfl, rfl⟩
  gi_wp2
  refine wpIn_rangeFunc_raw rfl (by omega) (gf := 129) (lb := #[.pointer (some ⟨w.heap.size + 3, 0, none⟩)]) rfl trivial (enters_of Tryz.func129 (by kernel_rfl) rfl) ?_
  intro ρ hround
  have esz : ((((w.alloc (.cells #[.slice none 0 0] 44)).alloc (.cells #[.int .i64 0] 3)).alloc (.cells #[.int .i64 0] 31)).alloc (.cells #[.string s] 9)).heap.size = w.heap.size + 4 := scanW_size w s
  rw [esz] at hround ⊢
  simp only [Nat.add_assoc, Nat.reduceAdd] at hround ⊢
  have HJ0 := Lib.hid (scanJ_start w s (ρ .ready none))
  clear esz hmf
  refine (tokens1_any 4 (w.heap.size + 5) (w.heap.size + 3) s (ScanJ w (ρ .ready none)) (ScanJx w (ρ .done (some .ret))) _ hs ?_ ?_ ?_ ?_ HJ0.out).mono ?_
  · exact Blk.cell (heap_alloc_lt (heap_alloc_lt (scanW_str w s)))
  · intro acc W W' hJ hb
    exact hJ.kept (grown_of_below hb) (fun b e => by cases e)
  · intro acc W W' b k hle hJ hR hg
    refine hJ.kept hg ?_
    rintro b' e
    cases e
    exact ⟨_, _, hR, by decide, by decide, by decide, by decide, by simp [scanW_size] at hle; omega⟩
  · rintro acc ⟨kd, tl, pos⟩ W hJ
    show YieldAt Fence.wide 4 Tryz.prog (w.heap.size + 5) #[.agg #[.int .i64 kd, .string (bytesOf tl), .int .i64 (pos : Int)]] W _
    refine hround #[.agg #[.int .i64 kd, .string (bytesOf tl), .int .i64 (pos : Int)]] W _ rfl hJ.loop ?_
    clear hround
    gi_wp2
    have ht0 : TokAt (W.alloc (.cells #[.int .i64 kd, .string (bytesOf tl), .int .i64 (pos : Int)] 47)) W.heap.size kd (bytesOf tl) pos := heap_alloc_new W _
    have hJ1 : ScanJ w (ρ .ready none) acc (W.alloc (.cells #[.int .i64 kd, .string (bytesOf tl), .int .i64 (pos : Int)] 47)) := hJ.kept (grown_of_below ((Below.refl _ _).alloc (Nat.le_refl _) _)) (fun b e => by cases e)
    refine ⟨hJ1.loop, ?_⟩
    refine wpIn_world (G := fun W2 => TokAt W2 W.heap.size kd (bytesOf tl) pos ∧ ScanJ w (ρ .busy none) acc W2 ∧ W.grownBy W2 (some (w.heap.size + 5)) ∧ W.heap.size < W2.heap.size) ⟨?_, ?_, ?_, by simp⟩ ?_
    · exact blk_put ht0 (by have := lt_some hJ.loop; omega)
    · exact hJ1.put _
    · exact ⟨rfl, rfl, rfl, by simp, fun k hk hne => (World.putObj_heap_other (by simpa using hne)).trans (Below.heap_alloc W _ k hk)⟩
    rintro W2 ⟨hT, hJ2, hg2, hlt2⟩
    obtain ⟨v, hv, hrow⟩ := hJ2.row
    obtain ⟨pp, cap, rfl⟩ := ownsRow_form hrow
    have c0 := hv.cell
    have c1 := hJ2.at_.cell
    have c2 := hJ2.err.cell
    have f0 := hv.free
    have f1 := hJ2.at_.free
    have f2 := hJ2.err.free
    have t0 := hT.cells
    have hlen := hJ2.len
    have hlw := hJ2.below.size
    have hsz := lt_some hJ2.loop
    have HJ2 := Lib.hid hJ2
    have HT := Lib.hid hT
    have HG := Lib.hid hg2
    have HV := Lib.hid hv
    have HROW := Lib.hid hrow
    have HLP := Lib.hid hJ.loop
    clear hJ2 hT hg2 hv hrow hJ hJ1 ht0 hdec
    by_cases h2000 : acc.length = 2000
    · have hd : ((acc.length : Int) == 2000) = true := by rw [h2000]; rfl
      have H2 := Lib.hid h2000
      clear h2000
      have hmix : Tryz.prog.follows .mixedOrders = true := by kernel_rfl
      have HX : Hid (ScanJx w (ρ .busy none) pos ((((W2.setCell ⟨w.heap.size, 0, none⟩ (.slice none 0 0)).setCell ⟨w.heap.size + 1, 0, none⟩ (.int .i64 (pos : Int))).setCell ⟨w.heap.size + 2, 0, none⟩ (.int .i64 3)).drew)) := Lib.hid (by
        have h := HJ2.out
        have hr := HV.out
        refine ⟨?_, ?_, ?_, ?_, ?_, ?_⟩
        · exact set_other (set_other (Boxed.set _ hr) (by omega) _) (by omega) _
        · exact set_other (Boxed.set _ (set_other h.at_ (by omega) _)) (by omega) _
        · exact Boxed.set _ (set_other (set_other h.err (by omega) _) (by omega) _)
        · exact set_other (set_other (set_other h.mark (by omega) _) (by omega) _) (by omega) _
        · exact set_other (set_other (set_other h.loop (by omega) _) (by omega) _) (by omega) _
        · exact (((h.below.setCell (p := ⟨w.heap.size, 0, none⟩) (Nat.le_refl _) _).setCell (p := ⟨w.heap.size + 1, 0, none⟩) (Nat.le_succ _) _).setCell (p := ⟨w.heap.size + 2, 0, none⟩) (by show _ ≤ _ + 2; omega) _).drew)
      gi_wp2
      gi_region_with_o (fail)
      all_goals gi_wp2
      all_goals exact ⟨HX.out.loop, .inr ⟨H2.out, rfl, HX.out.put _⟩⟩
    · have hd : ((acc.length : Int) == 2000) = false := by simp; omega
      obtain ⟨i0, hi, hz0, hz1, hz2⟩ := info_parts info_tok
      gi_wp2_with (gi_at_builtin; refine wpListIn_append_own _ rfl _ _ 44 rfl w.heap.size 47 i0 (.agg #[.int .i64 0, .string ⟨#[]⟩, .int .i64 0]) 3 32 und_toks hi hz0 hz1 hz2 rfl (by decide) _ _ _ rfl (HROW.out.alloc _) ⟨W2.heap.size, 0, none⟩ 1 1 [.int .i64 kd, .string (bytesOf tl), .int .i64 (pos : Int)] rfl rfl (cells_new _ _ _) (by simp [Value.oneCell']) (by simp [maxLen]; omega) (by omega) (by simp; omega) ?_; intro v' w1 hown' hgrow _; obtain ⟨g', cap', rfl⟩ := ownsRow_succ hown'; obtain ⟨hv1, hJ3, hkr⟩ := HJ2.out.appended ⟨kd, tl, pos⟩ HV.out HROW.out hown' hgrow h2000; have hc1 := hv1.cell; have hf1 := hv1.frozen)
      have hk1 : KR W W2 := KR.grown HG.out (fun b e => by cases e; exact ⟨_, HLP.out, fun _ _ e => by cases e⟩)
      exact ⟨hJ3.loop, .inl ⟨h2000, rfl, hJ3.put _, ((hk1.trans hkr).trans (KR.put _ hJ3.loop)).rd⟩⟩
  · have hsc : scanT s.data.toList = scanG s.data.toList.length (s.data.toList.length + 1) s.data.toList [] := scanT_short (by simpa using hs)
    have HR : ∀ e X, ScanPost s w e X ↔ ∃ v : Value, e = .returned (.tuple #[v, .int .i64 ((scanG s.data.toList.length (s.data.toList.length + 1) s.data.toList []).2.1 : Int), .int .i64 (scanG s.data.toList.length (s.data.toList.length + 1) s.data.toList []).2.2]) ∧ ToksAt X w.heap.size v (scanG s.data.toList.length (s.data.toList.length + 1) s.data.toList []).1 ∧ Below w.heap.size w X := by
      intro e X; rw [← hsc]; exact Iff.rfl
    have HR2 := Lib.hid HR
    clear HR hsc
    intro e W hW
    have HW := Lib.hid hW
    unfold SeqPost at HW
    clear hW
    have hok := scanG_ok s.data.toList.length (s.data.toList.length + 1) s.data.toList []
    obtain ⟨r, hr⟩ : ∃ r, scanG s.data.toList.length (s.data.toList.length + 1) s.data.toList [] = r := ⟨_, rfl⟩
    rw [hr] at HW HR2 hok
    have HOK := Lib.hid hok
    clear hr hok
    rcases HW.out with ⟨h0, rfl, hJ⟩ | ⟨h3, hnil, rfl, hJ⟩ | ⟨h340, hnil, rfl, acc, hJ⟩
    · have HS := Lib.hid h0
      have hscan1 : r.2.2 = 0 := h0
      refine .inl ⟨hJ.loop, ?_⟩
      have hJ' := hJ.put (ρ .exhausted none)
      obtain ⟨v, hv, hrow⟩ := hJ'.row
      obtain ⟨pp, cap, rfl⟩ := ownsRow_form hrow
      have c0 := hv.cell
      have c1 := hJ'.at_.cell
      have c2 := hJ'.err.cell
      have f0 := hv.free
      have f1 := hJ'.at_.free
      have f2 := hJ'.err.free
      have HJ' := Lib.hid hJ'
      have HV := Lib.hid hv
      have HROW := Lib.hid hrow
      clear hv hrow hJ' hJ hround HJ0 h0 hscan1
      gi_wp2
      refine ScanJ.stored HJ'.out HV.out HROW.out (bodyPostM Fence.wide 6 Tryz.prog Tryz.f35 (ScanPost s w) .ret _) ?_
      intro Y y0 y1 y2 ym yo yb
      refine scan_leave w Y _ _ r.1 0 0 _ y0 y1 y2 ym yo yb ?_ ?_
      · intro X' q0 q1 q2
        simp [results, Tryz.results35, go_sem, q0, q1, q2]
      · intro X' hX hB
        exact (HR2.out _ _).2 ⟨_, by rw [HOK.out HS.out, HS.out], hX, hB⟩
    · refine .inr ⟨_, hJ.loop, ?_⟩
      have hx := hJ.put (ρ .exhausted (some .ret))
      have HX := Lib.hid hx
      have H3 := Lib.hid h3
      have HN := Lib.hid hnil
      clear hx hJ hround HJ0 h3 hnil
      gi_wp2
      refine scan_leave w _ _ _ [] r.2.1 3 _ HX.out.row HX.out.at_ HX.out.err HX.out.mark (World.ownsRow_nil _ _ _ _) HX.out.below ?_ ?_
      · intro X' q0 q1 q2
        simp [results, Tryz.results35, go_sem, q0, q1, q2]
      · intro X' hX hB
        refine (HR2.out _ _).2 ⟨_, by rw [H3.out], by rw [HN.out]; exact hX, hB⟩
    · have H3 := Lib.hid h340
      have HN := Lib.hid hnil
      obtain ⟨v, hv, hrow⟩ := hJ.row
      refine ⟨by simp, .inl ⟨_, _, rfl, run_takeDeferred hJ.mark, ?_⟩⟩
      have y0 := blk_put (o' := .deferred none) hv (show w.heap.size ≠ w.heap.size + 4 by omega)
      have y1 := blk_put (o' := .deferred none) hJ.at_ (show w.heap.size + 1 ≠ w.heap.size + 4 by omega)
      have y2 := blk_put (o' := .deferred none) hJ.err (show w.heap.size + 2 ≠ w.heap.size + 4 by omega)
      have hb' := hJ.below.grown (grownBy_putObj' W (w.heap.size + 4) (.deferred none)) hJ.below.size (fun b e => by cases e; omega)
      have hsz := lt_some y2
      refine ⟨by simp, .inr ⟨by simp [Fence.wide], .func 80, _, 80, #[.pointer (some ⟨w.heap.size, 0, none⟩), .pointer (some ⟨w.heap.size + 1, 0, none⟩), .pointer (some ⟨w.heap.size + 2, 0, none⟩)], rfl, by simp [go_sem], fun _ _ => trivial, ?_⟩⟩
      refine (scan1_bad _ w.heap.size r.2.1 [] _ v _ _ (Blk.cell y0) (Blk.cell y1) (Blk.cell y2) (Blk.free y0) (Blk.free y1) (Blk.free y2) hsz).mono ?_
      rintro e u' X2 ⟨rfl, rfl, w2, hb2, rfl⟩
      have z0 := (hb2.block _ (lt_some y0)).trans y0
      have z1 := (hb2.block _ (lt_some y1)).trans y1
      have z2 := (hb2.block _ (lt_some y2)).trans y2
      have q0 : Blk (((w2.setCell ⟨w.heap.size, 0, none⟩ (.slice none 0 0)).setCell ⟨w.heap.size + 1, 0, none⟩ (.int .i64 r.2.1)).setCell ⟨w.heap.size + 2, 0, none⟩ (.int .i64 340)).drew w.heap.size (.slice none 0 0) 44 := set_other (set_other (Boxed.set _ z0) (by omega) _) (by omega) _
      have q1 : Blk (((w2.setCell ⟨w.heap.size, 0, none⟩ (.slice none 0 0)).setCell ⟨w.heap.size + 1, 0, none⟩ (.int .i64 r.2.1)).setCell ⟨w.heap.size + 2, 0, none⟩ (.int .i64 340)).drew (w.heap.size + 1) (.int .i64 r.2.1) 3 := set_other (Boxed.set _ (set_other z1 (by omega) _)) (by omega) _
      have q2 : Blk (((w2.setCell ⟨w.heap.size, 0, none⟩ (.slice none 0 0)).setCell ⟨w.heap.size + 1, 0, none⟩ (.int .i64 r.2.1)).setCell ⟨w.heap.size + 2, 0, none⟩ (.int .i64 340)).drew (w.heap.size + 2) (.int .i64 340) 31 := Boxed.set _ (set_other (set_other z2 (by omega) _) (by omega) _)
      refine ⟨.tuple #[.slice none 0 0, .int .i64 r.2.1, .int .i64 340], ?_, (HR2.out _ _).2 ⟨.slice none 0 0, by rw [H3.out], by rw [HN.out]; exact World.ownsRow_nil _ _ _ _, ?_⟩⟩
      · have p0 := Blk.cell q0
        have p1 := Blk.cell q1
        have p2 := Blk.cell q2
        generalize (((w2.setCell ⟨w.heap.size, 0, none⟩ (.slice none 0 0)).setCell ⟨w.heap.size + 1, 0, none⟩ (.int .i64 r.2.1)).setCell ⟨w.heap.size + 2, 0, none⟩ (.int .i64 340)).drew = Y at p0 p1 p2 ⊢
        simp [results, Tryz.results35, go_sem, p0, p1, p2]
      · exact (((hb'.trans (hb2.mono hb'.size)).setCell (p := ⟨w.heap.size, 0, none⟩) (Nat.le_refl _) _).setCell (p := ⟨w.heap.size + 1, 0, none⟩) (Nat.le_succ _) _).setCell (p := ⟨w.heap.size + 2, 0, none⟩) (by show _ ≤ _ + 2; omega) _ |>.drew

set_option maxRecDepth 100000 in
set_option maxHeartbeats 1000000 in
theorem scan_long (s : ByteArray) (w : World) (hs : 20000 < s.size) : Calls Tryz.prog 35 #[.string s] w (ScanPost s w) := by
  go_enter Tryz.func35, Tryz.ntmps35
  have hdec : decide (20000 < (s.size : Int)) = true := by simp; omega
  go_wp2
  have hsc : scanT s.data.toList = ([], 0, 3) := by unfold scanT; rw [if_pos (by simpa using hs)]
  refine bodyPost_ret (v := .tuple #[.slice none 0 0, .int .i64 0, .int .i64 3]) (by simp [results, Tryz.results35, go_sem]) rfl ?_
  refine ⟨.slice none 0 0, by rw [hsc]; rfl, by rw [hsc]; exact World.ownsRow_nil _ _ _ _, ?_⟩
  exact (((Below.refl _ _).alloc (Nat.le_refl _) _).alloc (by simp) _).alloc (by simp; omega) _

theorem scan_any (s : ByteArray) (w : World) : Calls Tryz.prog 35 #[.string s] w (ScanPost s w) := by
  rcases Nat.lt_or_ge 20000 s.size with h | h
  · exact scan_long s w h
  · exact scan_short s w h
end Go.Proofs.YtiledamgmppcmaaGreatDoor
/-! LexR -/
namespace Go.Proofs.YtiledamgmppcmaaGreatDoor
open Go.RowKit

end Go.Proofs.YtiledamgmppcmaaGreatDoor
/-! LexS -/
namespace Go.Proofs.YtiledamgmppcmaaGreatDoor
open Go.RowKit

end Go.Proofs.YtiledamgmppcmaaGreatDoor
/-! LexT -/
namespace Go.Proofs.YtiledamgmppcmaaGreatDoor
open Go.RowKit

end Go.Proofs.YtiledamgmppcmaaGreatDoor
/-! LexU -/
namespace Go.Proofs.YtiledamgmppcmaaGreatDoor
open Go.RowKit

end Go.Proofs.YtiledamgmppcmaaGreatDoor
/-! Ex -/
namespace Go.Proofs.YtiledamgmppcmaaGreatDoor
open Go.RowKit

def Ex.val (x : Ex) (s : Value) : Value := .agg #[.int .i64 x.op, .int .i64 x.n, .string x.name, s]
/-- Where a slice of expressions lies. -/
def ArgsFit (w : World) (p : Option Addr) (l : List Ex) (S : Nat → Value) : Prop :=
  l ≠ [] → ∃ b o, p = some ⟨b, o, none⟩ ∧ ∀ (j : Nat) (x : Ex), l[j]? = some x → w.cell? ⟨b, o + j * 4, none⟩ = some (.int .i64 x.op) ∧ w.cell? ⟨b, o + j * 4 + 1, none⟩ = some (.int .i64 x.n) ∧ w.cell? ⟨b, o + j * 4 + 2, none⟩ = some (.string x.name) ∧ w.cell? ⟨b, o + j * 4 + 3, none⟩ = some (S j)
inductive ArgsAt (w : World) : Value → List Ex → Prop
  | mk (p : Option Addr) (cap : Nat) (l : List Ex) (S : Nat → Value) (hcap : l.length ≤ cap) (hmax : cap ≤ 9223372036854775807) (hfit : ArgsFit w p l S)
      (hname : ∀ (j : Nat) (x : Ex), l[j]? = some x → x.name.size ≤ 9223372036854775807) (hargs : ∀ (j : Nat) (x : Ex), l[j]? = some x → ArgsAt w (S j) x.args) : ArgsAt w (.slice p l.length cap) l
/-- A value reads as an expression. -/
def ExAt (w : World) (v : Value) (x : Ex) : Prop := ∃ s, v = x.val s ∧ x.name.size ≤ 9223372036854775807 ∧ ArgsAt w s x.args

theorem ArgsFit.below {W w : World} {p : Option Addr} {l : List Ex} {S : Nat → Value} (h : ArgsFit W p l S) (hb : Below W.heap.size W w) : ArgsFit w p l S := by
  intro hl
  obtain ⟨b, o, rfl, hc⟩ := h hl
  refine ⟨b, o, rfl, fun j x hx => ?_⟩
  obtain ⟨h0, h1, h2, h3⟩ := hc j x hx
  exact ⟨below_cell hb h0, below_cell hb h1, below_cell hb h2, below_cell hb h3⟩
theorem ArgsAt.mono {W w : World} {v : Value} {l : List Ex} (h : ArgsAt W v l) (hb : Below W.heap.size W w) : ArgsAt w v l := by
  induction h with
  | mk p cap l S hcap hmax hfit hname hargs ih => exact .mk p cap l S hcap hmax (hfit.below hb) hname ih
theorem ExAt.mono {W w : World} {v : Value} {x : Ex} (h : ExAt W v x) (hb : Below W.heap.size W w) : ExAt w v x := by
  obtain ⟨s, rfl, hn, ha⟩ := h
  exact ⟨s, rfl, hn, ha.mono hb⟩
theorem ArgsAt.inv {w : World} {v : Value} {l : List Ex} (h : ArgsAt w v l) : ∃ p cap S, v = .slice p l.length cap ∧ l.length ≤ cap ∧ cap ≤ 9223372036854775807 ∧ ArgsFit w p l S ∧ (∀ (j : Nat) (x : Ex), l[j]? = some x → x.name.size ≤ 9223372036854775807) ∧ ∀ (j : Nat) (x : Ex), l[j]? = some x → ArgsAt w (S j) x.args := by
  cases h with
  | mk p cap l S hcap hmax hfit hname hargs => exact ⟨p, cap, S, rfl, hcap, hmax, hfit, hname, hargs⟩
/-- Where nothing bounds the stack, the room asked for says nothing. -/
theorem yieldAt_wide {m m' : Nat} {P : Program} {l : Nat} {args : Array Value} {W : World} {R : Ending → World → Prop} (h : YieldAt Fence.wide m P l args W R) : YieldAt Fence.wide m' P l args W R := by
  obtain ⟨fn, tmps, assign, body, hr, h1, h2⟩ := h
  exact ⟨fn, tmps, assign, body, hr, h1, fun c cs _ => h2 c cs (room_wide _)⟩

def arityN (op : Int) : Int :=
  if op = 1 ∨ op = 2 ∨ op = 3 ∨ op = 4 then 0 else if op = 5 ∨ op = 6 then 1 else if 7 ≤ op ∧ op ≤ 18 then 2 else if op = 19 then 3 else -1
/-- A node is valid, apart from its operands. -/
def plainX (x : Ex) : Bool :=
  decide ((x.args.length : Int) = arityN x.op) && decide (0 ≤ x.n) && decide (x.n ≤ 9999) && (decide (x.n = 0) || decide (x.op = 1)) && (if x.op = 2 then decide (checkE 1 x.name.data.toList 0 = 0) else decide (x.name.size = 0))
mutual
/-- How many nodes are left of so many; none where it is not valid. -/
def vis (left d : Nat) : Ex → Option Nat
  | .mk op n s l => if left = 0 ∨ 12 < d ∨ plainX (.mk op n s l) = false then none else visL (left - 1) (d + 1) l
def visL (left d : Nat) : List Ex → Option Nat
  | [] => some left
  | x :: r => match vis left d x with
    | none => none
    | some k => visL k d r
end
def validX (x : Ex) : Bool := (vis 60 1 x).isSome
def checkX (x : Ex) : Int := if validX x then 0 else 350
theorem vis_eq (left d : Nat) (x : Ex) : vis left d x = if left = 0 ∨ 12 < d ∨ plainX x = false then none else visL (left - 1) (d + 1) x.args := by
  cases x; rw [vis]; rfl
end Go.Proofs.YtiledamgmppcmaaGreatDoor
/-! App -/
namespace Go.Proofs.YtiledamgmppcmaaGreatDoor
open Go.RowKit

section
variable {P : Program} (w : World)
end

end Go.Proofs.YtiledamgmppcmaaGreatDoor
/-! ExA -/
namespace Go.Proofs.YtiledamgmppcmaaGreatDoor
open Go.RowKit

/-- An operator. -/
structure Opr where
  operands : Int
  want : Int
  is_ : Int
  level : Int
  sign : ByteArray
def Opr.cells (o : Opr) : List Value := [.int .i64 o.operands, .int .i64 o.want, .int .i64 o.is_, .int .i64 o.level, .string o.sign]
def Opr.val (o : Opr) : Value := .agg #[.int .i64 o.operands, .int .i64 o.want, .int .i64 o.is_, .int .i64 o.level, .string o.sign]
def opTab : List Opr := [⟨0, 0, 0, 0, ⟨#[]⟩⟩, ⟨0, 0, 1, 8, ⟨#[]⟩⟩, ⟨0, 0, 1, 8, ⟨#[]⟩⟩, ⟨0, 0, 2, 8, ⟨#[116, 114, 117, 101]⟩⟩, ⟨0, 0, 2, 8, ⟨#[102, 97, 108, 115, 101]⟩⟩, ⟨1, 1, 1, 7, ⟨#[45]⟩⟩, ⟨1, 2, 2, 3, ⟨#[110, 111, 116]⟩⟩, ⟨2, 1, 1, 5, ⟨#[43]⟩⟩, ⟨2, 1, 1, 5, ⟨#[45]⟩⟩, ⟨2, 1, 1, 6, ⟨#[42]⟩⟩, ⟨2, 1, 1, 6, ⟨#[47]⟩⟩, ⟨2, 1, 2, 4, ⟨#[61]⟩⟩, ⟨2, 1, 2, 4, ⟨#[33, 61]⟩⟩, ⟨2, 1, 2, 4, ⟨#[60]⟩⟩, ⟨2, 1, 2, 4, ⟨#[60, 61]⟩⟩, ⟨2, 1, 2, 4, ⟨#[62]⟩⟩, ⟨2, 1, 2, 4, ⟨#[62, 61]⟩⟩, ⟨2, 2, 2, 2, ⟨#[97, 110, 100]⟩⟩, ⟨2, 2, 2, 1, ⟨#[111, 114]⟩⟩, ⟨3, 0, 0, 0, ⟨#[105, 102]⟩⟩]
def opsV : Value := .agg (opTab.flatMap Opr.cells).toArray
def opAt (op : Int) : Opr := opTab.getD op.toNat ⟨0, 0, 0, 0, ⟨#[]⟩⟩

theorem wpList_build_to {P : Program} {ops : Array Oper} {rest : List Oper} {o : Oper} {a : Act} {w : World} {Q : Exit → Act → World → Prop} (hg : o.guard = none) (t : TypeId) (parts : Array (Nat × Operand)) (ho : o.op = .build t parts) (cells : Array Value)
    (hf : P.built t (parts.map fun (i, x) => (i, a.eval x)).toList = some cells) (h : wpList P ops Q rest (a.put o.dst (.agg cells)) w) : wpList P ops Q (o :: rest) a w :=
  wpList_build hg t parts ho (by rw [hf]; rfl) (by rw [hf]; exact h)

theorem _root_.Go.RowKit.Below.setRow_new {B : Nat} {W w : World} (h : Below B W w) {g : Nat} (hg : B ≤ g) (cs : Array Value) : Below B W (w.setRow g cs) :=
  ⟨h.os, h.tape, h.output, by simpa using h.size, fun k hk => (setRow_other w g k cs (by omega)).trans (h.block k hk)⟩
set_option maxRecDepth 100000 in
set_option maxHeartbeats 4000000 in
theorem operators_any (w : World) :
    Calls Tryz.prog 143 #[] w fun e w' => e = .returned opsV ∧ Below w.heap.size w w' := by
  go_enter Tryz.func143, Tryz.ntmps143
  go_wp2_with (first
    | (refine wpList_build_to (o := ⟨some 20, .build 201 _, _, _, _, _⟩) rfl 201 _ rfl (opTab.flatMap Opr.cells).toArray ?_ ?_; kernel_rfl)
    | (refine wpList_store_row (o := ⟨none, .store 201 (.tmp 0) (.tmp 20), _, _, _, _⟩) rfl 201 _ _ rfl w.heap.size (opTab.flatMap Opr.cells).toArray rfl rfl 201 Tryz.zeroCells201 (heap_alloc_new _ _) (by kernel_rfl) (by kernel_rfl) (by kernel_rfl) ?_))
  refine bodyPost_ret (v := opsV) (results_cell_row Tryz.results143 _ _ w.heap.size 201 (opTab.flatMap Opr.cells).toArray (0, 0) _ rfl (setRow_heap _ _ _ _ _ _ (heap_alloc_new w _)) Tryz.underlying201 rfl (by kernel_rfl)) rfl ⟨rfl, ?_⟩
  exact ((Below.refl _ _).alloc (Nat.le_refl _) _).setRow_new (Nat.le_refl _) _

theorem known_no (op : Int) (w : World) (h : op < 1 ∨ 19 < op) :
    Calls Tryz.prog 99 #[.int .i64 op] w fun e w' => e = .returned (.tuple #[(⟨0, 0, 0, 0, ⟨#[]⟩⟩ : Opr).val, .bool false]) ∧ Below w.heap.size w w' := by
  have hb : Below w.heap.size w (w.alloc (.cells #[.int .i64 0, .int .i64 0, .int .i64 0, .int .i64 0, .string ⟨#[]⟩] 166)) := (Below.refl _ _).alloc (Nat.le_refl _) _
  have HB := Lib.hid hb
  clear hb
  rcases h with h | h
  · go_enter Tryz.func99, Tryz.ntmps99
    go_wp2
    exact bodyPost_ret (v := .tuple #[(⟨0, 0, 0, 0, ⟨#[]⟩⟩ : Opr).val, .bool false]) (by simp [results, Tryz.results99, go_sem, Opr.val]) rfl ⟨rfl, HB.out⟩
  · have h1 : ¬ op < 1 := by omega
    go_enter Tryz.func99, Tryz.ntmps99
    go_wp2
    exact bodyPost_ret (v := .tuple #[(⟨0, 0, 0, 0, ⟨#[]⟩⟩ : Opr).val, .bool false]) (by simp [results, Tryz.results99, go_sem, Opr.val]) rfl ⟨rfl, HB.out⟩

set_option maxRecDepth 100000 in
set_option maxHeartbeats 4000000 in
theorem known_yes (op : Int) (w : World) (h1 : 1 ≤ op) (h2 : op ≤ 19) :
    Calls Tryz.prog 99 #[.int .i64 op] w fun e w' => e = .returned (.tuple #[(opAt op).val, .bool true]) ∧ Below w.heap.size w w' := by
  have hix : ∀ W, (Instr.index 201 opsV (.int .i64 op)).run Tryz.prog W = .ok (opAt op).val W := by
    obtain ⟨k, rfl⟩ := Int.eq_ofNat_of_zero_le (show 0 ≤ op by omega)
    obtain rfl | rfl | rfl | rfl | rfl | rfl | rfl | rfl | rfl | rfl | rfl | rfl | rfl | rfl | rfl | rfl | rfl | rfl | rfl : k = 1 ∨ k = 2 ∨ k = 3 ∨ k = 4 ∨ k = 5 ∨ k = 6 ∨ k = 7 ∨ k = 8 ∨ k = 9 ∨ k = 10 ∨ k = 11 ∨ k = 12 ∨ k = 13 ∨ k = 14 ∨ k = 15 ∨ k = 16 ∨ k = 17 ∨ k = 18 ∨ k = 19 := by omega
    all_goals (intro W; kernel_rfl)
  obtain ⟨V, hV⟩ : ∃ V, opsV = V := ⟨_, rfl⟩
  obtain ⟨⟨a, b, c, d, s⟩, hO⟩ : ∃ O, opAt op = O := ⟨_, rfl⟩
  rw [hV, hO] at hix
  rw [hO]
  have HV := Lib.hid hV
  unfold Opr.val at hix ⊢
  clear hV hO
  go_enter Tryz.func99, Tryz.ntmps99
  go_wp2_with fail
  refine (operators_any _).mono ?_
  rintro e w1 ⟨rfl, hb1⟩
  rw [HV.out]
  have hs := hb1.size
  have hrow : w1.heap[w.heap.size]? = some (.cells #[.int .i64 0, .int .i64 0, .int .i64 0, .int .i64 0, .string ⟨#[]⟩] 166 (0, 0)) := (hb1.block _ (by simp)).trans (heap_alloc_new w _)
  have HB := Lib.hid hb1
  have HS := Lib.hid (show w.heap.size < w1.heap.size by simp at hs; omega)
  have c0 : w1.cell? ⟨w.heap.size, 0, none⟩ = _ := cell_of_row _ _ _ _ _ _ hrow
  have c1 : w1.cell? ⟨w.heap.size, 1, none⟩ = _ := cell_of_row _ _ _ _ _ _ hrow
  have c2 : w1.cell? ⟨w.heap.size, 2, none⟩ = _ := cell_of_row _ _ _ _ _ _ hrow
  have c3 : w1.cell? ⟨w.heap.size, 3, none⟩ = _ := cell_of_row _ _ _ _ _ _ hrow
  have c4 : w1.cell? ⟨w.heap.size, 4, none⟩ = _ := cell_of_row _ _ _ _ _ _ hrow
  have f0 : w1.frozen? ⟨w.heap.size, 0, none⟩ = _ := frozen_of_row _ _ _ _ _ hrow
  have f1 : w1.frozen? ⟨w.heap.size, 1, none⟩ = _ := frozen_of_row _ _ _ _ _ hrow
  have f2 : w1.frozen? ⟨w.heap.size, 2, none⟩ = _ := frozen_of_row _ _ _ _ _ hrow
  have f3 : w1.frozen? ⟨w.heap.size, 3, none⟩ = _ := frozen_of_row _ _ _ _ _ hrow
  have f4 : w1.frozen? ⟨w.heap.size, 4, none⟩ = _ := frozen_of_row _ _ _ _ _ hrow
  simp only [List.getElem?_toArray, List.getElem?_cons_zero, List.getElem?_cons_succ] at c0 c1 c2 c3 c4
  have HR := Lib.hid hrow
  clear hb1 hs hrow
  go_wp2
  refine bodyPost_ret (v := .tuple #[.agg #[.int .i64 a, .int .i64 b, .int .i64 c, .int .i64 d, .string s], .bool true]) (by simp [results, Tryz.results99, go_sem, c0, c1, c2, c3, c4]) rfl ⟨rfl, ?_⟩
  have hb := ((Below.refl w.heap.size w).alloc (Nat.le_refl _) (.cells #[.int .i64 0, .int .i64 0, .int .i64 0, .int .i64 0, .string ⟨#[]⟩] 166)).trans (HB.out.mono (by simp))
  exact ((((hb.setCell (p := ⟨w.heap.size, 0, none⟩) (Nat.le_refl _) _).setCell (p := ⟨w.heap.size, 1, none⟩) (Nat.le_refl _) _).setCell (p := ⟨w.heap.size, 2, none⟩) (Nat.le_refl _) _).setCell (p := ⟨w.heap.size, 3, none⟩) (Nat.le_refl _) _).setCell (p := ⟨w.heap.size, 4, none⟩) (Nat.le_refl _) _
end Go.Proofs.YtiledamgmppcmaaGreatDoor
/-! ExB -/
namespace Go.Proofs.YtiledamgmppcmaaGreatDoor
open Go.RowKit

theorem opAt_arity (op : Int) (h1 : 1 ≤ op) (h2 : op ≤ 19) : (opAt op).operands = arityN op := by
  obtain ⟨k, rfl⟩ := Int.eq_ofNat_of_zero_le (show 0 ≤ op by omega)
  obtain rfl | rfl | rfl | rfl | rfl | rfl | rfl | rfl | rfl | rfl | rfl | rfl | rfl | rfl | rfl | rfl | rfl | rfl | rfl : k = 1 ∨ k = 2 ∨ k = 3 ∨ k = 4 ∨ k = 5 ∨ k = 6 ∨ k = 7 ∨ k = 8 ∨ k = 9 ∨ k = 10 ∨ k = 11 ∨ k = 12 ∨ k = 13 ∨ k = 14 ∨ k = 15 ∨ k = 16 ∨ k = 17 ∨ k = 18 ∨ k = 19 := by omega
  all_goals rfl
theorem arity_out (op : Int) (h : op < 1 ∨ 19 < op) : arityN op = -1 := by
  unfold arityN
  rw [if_neg (by omega), if_neg (by omega), if_neg (by omega), if_neg (by omega)]
theorem plainX_iff (op n : Int) (s : ByteArray) (l : List Ex) : plainX (.mk op n s l) = true ↔ (l.length : Int) = arityN op ∧ 0 ≤ n ∧ n ≤ 9999 ∧ (n = 0 ∨ op = 1) ∧ (if op = 2 then checkE 1 s.data.toList 0 = 0 else s.size = 0) := by
  show ((((decide ((l.length : Int) = arityN op) && decide (0 ≤ n)) && decide (n ≤ 9999)) && (decide (n = 0) || decide (op = 1))) && (if op = 2 then decide (checkE 1 s.data.toList 0 = 0) else decide (s.size = 0))) = true ↔ _
  by_cases h : op = 2
  · rw [if_pos h, if_pos h]; simp only [Bool.and_eq_true, Bool.or_eq_true, decide_eq_true_eq, and_assoc]
  · rw [if_neg h, if_neg h]; simp only [Bool.and_eq_true, Bool.or_eq_true, decide_eq_true_eq, and_assoc]
theorem plainX_no {op n : Int} {s : ByteArray} {l : List Ex} (h : ¬ ((l.length : Int) = arityN op ∧ 0 ≤ n ∧ n ≤ 9999 ∧ (n = 0 ∨ op = 1))) : plainX (.mk op n s l) = false := by
  cases hp : plainX (.mk op n s l) with
  | false => rfl
  | true =>
    obtain ⟨h1, h2, h3, h4, _⟩ := (plainX_iff op n s l).1 hp
    exact absurd ⟨h1, h2, h3, h4⟩ h

theorem isEmpty_size (s : ByteArray) : s.toList.isEmpty = decide (s.size = 0) := by
  rcases Nat.eq_zero_or_pos s.size with h | h
  · rw [toList_of_size_zero h, h]; rfl
  · rw [toList_of_size_pos h]; symm; rw [decide_eq_false_iff_not]; omega
theorem plainX_name {op n : Int} {s : ByteArray} {l : List Ex} (h1 : (l.length : Int) = arityN op) (h2 : ¬ n < 0) (h3 : ¬ 9999 < n) (h4 : n = 0 ∨ op = 1) (h5 : op = 2) : plainX (.mk op n s l) = (checkE 1 s.data.toList 0 == 0) := by
  rw [Bool.eq_iff_iff, plainX_iff, if_pos h5, beq_iff_eq]
  exact ⟨fun h => h.2.2.2.2, fun h => ⟨h1, by omega, by omega, h4, h⟩⟩
theorem plainX_other {op n : Int} {s : ByteArray} {l : List Ex} (h1 : (l.length : Int) = arityN op) (h2 : ¬ n < 0) (h3 : ¬ 9999 < n) (h4 : n = 0 ∨ op = 1) (h5 : ¬ op = 2) : plainX (.mk op n s l) = s.toList.isEmpty := by
  rw [Bool.eq_iff_iff, plainX_iff, if_neg h5, isEmpty_size, decide_eq_true_eq]
  exact ⟨fun h => h.2.2.2.2, fun h => ⟨h1, by omega, by omega, h4, h⟩⟩

set_option maxHeartbeats 1000000 in
theorem plain_any (v : Value) (x : Ex) (w : World) (h : ExAt w v x) :
    Calls Tryz.prog 54 #[v] w fun e w' => e = .returned (.bool (plainX x)) ∧ Below w.heap.size w w' := by
  obtain ⟨s, rfl, hn, ha⟩ := h
  obtain ⟨op, n, s', l⟩ := x
  obtain ⟨p, cap, S, rfl, hcap, hmax, -⟩ := ha.inv
  simp only [Ex.val, Ex.op, Ex.n, Ex.name, Ex.args] at hn hcap ⊢
  clear ha
  by_cases hop : 1 ≤ op ∧ op ≤ 19
  · have HA := Lib.hid (opAt_arity op hop.1 hop.2)
    go_enter Tryz.func54, Tryz.ntmps54
    go_wp2_with fail
    refine (known_yes op _ hop.1 hop.2).mono ?_
    rintro e w1 ⟨rfl, hb1⟩
    have hrow : w1.heap[w.heap.size]? = some (.cells #[.int .i64 op, .int .i64 n, .string s', .slice p l.length cap] 24 (0, 0)) := (hb1.block _ (by simp)).trans (heap_alloc_new w _)
    have c0 : w1.cell? ⟨w.heap.size, 0, none⟩ = _ := cell_of_row _ _ _ _ _ _ hrow
    have c1 : w1.cell? ⟨w.heap.size, 1, none⟩ = _ := cell_of_row _ _ _ _ _ _ hrow
    have c2 : w1.cell? ⟨w.heap.size, 2, none⟩ = _ := cell_of_row _ _ _ _ _ _ hrow
    have c3 : w1.cell? ⟨w.heap.size, 3, none⟩ = _ := cell_of_row _ _ _ _ _ _ hrow
    simp only [List.getElem?_toArray, List.getElem?_cons_zero, List.getElem?_cons_succ] at c0 c1 c2 c3
    have hz : w.heap.size < w1.heap.size := lt_some hrow
    have HB := Lib.hid (alloc_trans hb1)
    obtain ⟨⟨a, b, c, d, sg⟩, hO⟩ : ∃ O, opAt op = O := ⟨_, rfl⟩
    rw [hO] at HA ⊢
    have HA' : Hid (a = arityN op) := HA
    clear hrow hb1 hO HA
    unfold Opr.val
    by_cases g1 : (l.length : Int) = a
    · subst g1
      by_cases g2 : n < 0
      · have hd0 : True := trivial
        have HP : Hid (plainX (.mk op n s' l) = false) := Lib.hid (plainX_no (by rw [← HA'.out]; omega))
        go_wp2
        go_ret
        exact ⟨by rw [HP.out]; rfl, HB.out.alloc HB.out.size _⟩
      · by_cases g3 : 9999 < n
        · have hd0 : True := trivial
          have HP : Hid (plainX (.mk op n s' l) = false) := Lib.hid (plainX_no (by rw [← HA'.out]; omega))
          go_wp2
          go_ret
          exact ⟨by rw [HP.out]; rfl, HB.out.alloc HB.out.size _⟩
        · by_cases g4 : n = 0 ∨ op = 1
          · by_cases g5 : op = 2
            · have HP := Lib.hid (plainX_name (s := s') HA'.out g2 g3 g4 g5)
              subst g5
              obtain rfl : n = 0 := by omega
              obtain ⟨E, hE⟩ : ∃ E, checkE 1 s'.data.toList 0 = E := ⟨_, rfl⟩
              have HE := Lib.hid hE
              clear hE g4
              go_wp2_with fail
              refine (check_any 1 s' 0 _ hn).mono ?_
              rintro e w2 ⟨rfl, hb2⟩
              rw [HE.out]
              go_wp2
              go_ret
              exact ⟨by rw [HP.out, HE.out]; rfl, (HB.out.alloc HB.out.size _).trans (hb2.mono (HB.out.alloc HB.out.size _).size)⟩
            · have HP := Lib.hid (plainX_other (s := s') HA'.out g2 g3 g4 g5)
              by_cases g6 : n = 0
              · subst g6
                clear g4
                go_wp2
                go_ret
                exact ⟨by rw [HP.out]; rfl, HB.out.alloc HB.out.size _⟩
              · obtain rfl : op = 1 := by omega
                have hd : (n != 0) = true := by simpa using g6
                clear g4
                go_wp2
                go_ret
                exact ⟨by rw [HP.out]; rfl, HB.out.alloc HB.out.size _⟩
          · have hd1 : (n != 0) = true := by simp; omega
            have hd2 : (op != 1) = true := by simp; omega
            have HP : Hid (plainX (.mk op n s' l) = false) := Lib.hid (plainX_no (by rw [← HA'.out]; omega))
            go_wp2
            go_ret
            exact ⟨by rw [HP.out]; rfl, HB.out.alloc HB.out.size _⟩
    · have hd : ((l.length : Int) != a) = true := by simpa using g1
      have HP : Hid (plainX (.mk op n s' l) = false) := Lib.hid (plainX_no (by rw [← HA'.out]; omega))
      go_wp2
      go_ret
      exact ⟨by rw [HP.out]; rfl, HB.out.alloc HB.out.size _⟩
  · have hop' : op < 1 ∨ 19 < op := by omega
    have HP : Hid (plainX (.mk op n s' l) = false) := Lib.hid (by simp [plainX, Ex.op, Ex.args, arity_out op hop'])
    go_enter Tryz.func54, Tryz.ntmps54
    go_wp2_with fail
    refine (known_no op _ hop').mono ?_
    rintro e w1 ⟨rfl, hb1⟩
    unfold Opr.val
    go_wp2
    go_ret
    exact ⟨by rw [HP.out]; rfl, (alloc_trans hb1).alloc (alloc_trans hb1).size _⟩
end Go.Proofs.YtiledamgmppcmaaGreatDoor
/-! ExC -/
namespace Go.Proofs.YtiledamgmppcmaaGreatDoor
open Go.RowKit

attribute [local go_sem] Oper.semAt_some

mutual
/-- A walk in preorder with a state; false where a step said that it ends. -/
def walkX {σ : Type} (step : σ → Ex → Nat → σ × Bool) (s : σ) (d : Nat) : Ex → σ × Bool
  | .mk op n nm l => if (step s (.mk op n nm l) d).2 = true then walkL step (step s (.mk op n nm l) d).1 (d + 1) l else ((step s (.mk op n nm l) d).1, false)
def walkL {σ : Type} (step : σ → Ex → Nat → σ × Bool) (s : σ) (d : Nat) : List Ex → σ × Bool
  | [] => (s, true)
  | x :: r => if (walkX step s d x).2 = true then walkL step (walkX step s d x).1 d r else ((walkX step s d x).1, false)
end
theorem walkX_eq {σ : Type} (step : σ → Ex → Nat → σ × Bool) (s : σ) (d : Nat) (x : Ex) : walkX step s d x = if (step s x d).2 = true then walkL step (step s x d).1 (d + 1) x.args else ((step s x d).1, false) := by
  cases x; rw [walkX]; rfl
theorem walkL_drop {σ : Type} (step : σ → Ex → Nat → σ × Bool) (s : σ) (d : Nat) (l : List Ex) (j : Nat) (x : Ex) (hx : l[j]? = some x) :
    walkL step s d (l.drop j) = if (walkX step s d x).2 = true then walkL step (walkX step s d x).1 d (l.drop (j + 1)) else ((walkX step s d x).1, false) := by
  obtain ⟨hj, rfl⟩ := List.getElem?_eq_some_iff.1 hx
  rw [List.drop_eq_getElem_cons hj, walkL]

/-- Boxes of loop bodies and of expressions lie as they lay. -/
def KF (W W' : World) : Prop := ∀ (b : Nat) (C : Array Value) (t : TypeId) (f : Nat × Nat), t = 162 ∨ t = 24 → W.heap[b]? = some (.cells C t f) → W'.heap[b]? = some (.cells C t f)
theorem KF.refl (W : World) : KF W W := fun _ _ _ _ _ h => h
theorem KF.trans {A B C : World} (h : KF A B) (k : KF B C) : KF A C := fun b c t f ht hb => k b c t f ht (h b c t f ht hb)
theorem KF.below {W W' : World} (h : Below W.heap.size W W') : KF W W' := fun b _ _ _ _ hb => (h.block b (Array.getElem?_eq_some_iff.1 hb).1).trans hb

def FunBox (W : World) (b : Nat) (v : Value) : Prop := W.heap[b]? = some (.cells #[v] 162 (0, 0))
theorem FunBox.cell {W : World} {b : Nat} {v : Value} (h : FunBox W b v) : W.cell? ⟨b, 0, none⟩ = some v := cell_of_row _ _ _ _ _ _ h
def VisitPost {σ : Type} (J Jx : σ → World → Prop) (r : σ × Bool) (W : World) (e : Ending) (W' : World) : Prop :=
  e = .returned (.bool r.2) ∧ (if r.2 = true then J r.1 W' else Jx r.1 W') ∧ KF W W'

set_option maxRecDepth 100000 in
set_option maxHeartbeats 4000000 in
theorem visit_args {σ : Type} (step : σ → Ex → Nat → σ × Bool) (J Jx : σ → World → Prop) (P : Ex → Nat → Prop) (w : World) (l Y V : Nat)
    (hJw : ∀ s W, J s W → Below w.heap.size w W) (hJb : ∀ s W W', J s W → Below W.heap.size W W' → J s W')
    (hY : ∀ s x v d W, J s W → P x d → ExAt w v x → YieldAt Fence.wide 4 Tryz.prog l #[v, .int .i64 (d : Nat)] W (VisitPost J Jx (step s x d) W))
    (hP : ∀ s x d, P x d → (step s x d).2 = true → d ≤ 100 ∧ ∀ a ∈ x.args, P a (d + 1))
    {sl : Value} {args : List Ex} (h : ArgsAt w sl args) : ∀ (x : Ex) (d : Nat) (s : σ) (W : World), x.args = args → x.name.size ≤ 9223372036854775807 → P x d → J s W → FunBox W Y (.func (.yield l) #[] #[]) → FunBox W V (.func (.func 96) #[] #[.pointer (some ⟨Y, 0, none⟩), .pointer (some ⟨V, 0, none⟩)]) →
      Calls Tryz.prog 96 #[x.val sl, .int .i64 d, .pointer (some ⟨Y, 0, none⟩), .pointer (some ⟨V, 0, none⟩)] W (VisitPost J Jx (walkX step s d x) W) := by
  induction h with
  | mk p cap args S hcap hmax hfit hname hargs ih =>
    intro x d s W hxa hxn hPx hJ hbY hbV
    refine (callsIn_wide (n := 6)).1 ?_
    obtain ⟨op, n, nm, l'⟩ := x
    obtain rfl : l' = args := hxa
    have hE : ExAt w ((Ex.mk op n nm l').val (.slice p l'.length cap)) (.mk op n nm l') := ⟨_, rfl, hxn, .mk p cap l' S hcap hmax hfit hname hargs⟩
    simp only [Ex.val, Ex.op, Ex.n, Ex.name] at hE hxn ⊢
    refine callsIn_of_wp Tryz.func96 rfl trivial ?_ rfl
    simp only [Tryz.ntmps96, List.size_toArray, List.length_cons, List.length_nil, Nat.reduceAdd, Nat.reduceSub, Array.replicate_succ, Array.replicate_zero, List.push_toArray, List.append_toArray, List.nil_append, List.cons_append]
    have cY := hbY.cell
    have cV := hbV.cell
    have hsY := lt_some hbY
    have hsV := lt_some hbV
    obtain ⟨W1, hW1⟩ : ∃ W1, W.alloc (.cells #[.int .i64 op, .int .i64 n, .string nm, .slice p l'.length cap] 24) = W1 := ⟨_, rfl⟩
    have hb1 : Below W.heap.size W W1 := by rw [← hW1]; exact (Below.refl _ _).alloc (Nat.le_refl _) _
    have hrow1 : W1.heap[W.heap.size]? = some (.cells #[.int .i64 op, .int .i64 n, .string nm, .slice p l'.length cap] 24 (0, 0)) := by rw [← hW1]; exact heap_alloc_new W _
    have HJ1 := Lib.hid (hJb s W W1 hJ hb1)
    have hy0 := hY s _ _ d W1 HJ1.out hPx hE
    have HW1 := Lib.hid hW1
    have HB1 := Lib.hid hb1
    have HR1 := Lib.hid hrow1
    have HK1 := Lib.hid (KF.below hb1)
    have hP1 := hP s _ d hPx
    have HBY := Lib.hid hbY
    have HBV := Lib.hid hbV
    have HJw := Lib.hid hJw
    have HJb := Lib.hid hJb
    have HY := Lib.hid hY
    have HP := Lib.hid hP
    have HIH := Lib.hid ih
    have HWX := Lib.hid (walkX_eq step s d (.mk op n nm l'))
    obtain ⟨r, hr⟩ : ∃ r, step s (.mk op n nm l') d = r := ⟨_, rfl⟩
    rw [hr] at hy0 hP1
    have HP1 := Lib.hid hP1
    rw [hr] at HWX
    obtain ⟨s1, b1⟩ := r
    obtain ⟨fn, tmps, assign, body, hy, hRd⟩ := yieldAt_wide (m' := 5) hy0
    rw [← hW1] at hy
    have HRD := Lib.hid hRd
    clear hW1 hb1 hrow1 hP1 hbY hbV hJw hJb hY hP ih hr hy0 hRd hE hJ
    gi_wp2_with fail
    rw [HW1.out]
    refine HRD.out.mono ?_
    rintro e w5 ⟨rfl, hj, hk5⟩
    have HK5 := Lib.hid hk5
    clear hk5 HRD hy
    cases b1 with
    | false =>
      have HJx := Lib.hid hj
      clear hj
      gi_wp2
      go_ret
      rw [if_neg (by simp)] at HWX
      refine ⟨by rw [HWX.out]; rfl, ?_, HK1.out.trans HK5.out⟩
      rw [HWX.out]
      exact HJx.out
    | true =>
      have HJ5 := Lib.hid hj
      have hrow5 := HK5.out _ _ _ _ (.inr rfl) HR1.out
      have c3 : w5.cell? ⟨W.heap.size, 3, none⟩ = some (.slice p l'.length cap) := cell_of_row _ _ _ _ _ _ hrow5
      have hz5 : W.heap.size < w5.heap.size := lt_some hrow5
      rw [if_pos rfl] at HWX
      have hP1 := HP1.out rfl
      clear hj hrow5
      gi_wp2
      gi_loopw [17] (fun i wr => ∃ (j : Nat) (t : σ), j ≤ l'.length ∧ i = .int .i64 j ∧ J t wr ∧ KF w5 wr ∧ walkL step t (d + 1) (l'.drop j) = walkX step s d (.mk op n nm l')) (fun i _ => l'.length - (intOf i).toNat)
      case atStart => exact ⟨0, s1, Nat.zero_le _, rfl, HJ5.out, KF.refl _, HWX.out.symm⟩
      case round =>
        obtain ⟨j, t, hj, rfl, hJt, hk, hwl⟩ := hrel
        have HJT := Lib.hid hJt
        have HK := Lib.hid hk
        have HWL := Lib.hid hwl
        have cYr := (show FunBox wr Y (.func (.yield l) #[] #[]) from hk _ _ _ _ (.inl rfl) (HK5.out _ _ _ _ (.inl rfl) (HK1.out _ _ _ _ (.inl rfl) HBY.out))).cell
        have cVr := (show FunBox wr V (.func (.func 96) #[] #[.pointer (some ⟨Y, 0, none⟩), .pointer (some ⟨V, 0, none⟩)]) from hk _ _ _ _ (.inl rfl) (HK5.out _ _ _ _ (.inl rfl) (HK1.out _ _ _ _ (.inl rfl) HBV.out))).cell
        clear hJt hk hwl
        by_cases hlt : j < l'.length
        · obtain ⟨a, ha⟩ : ∃ a, l'[j]? = some a := ⟨_, List.getElem?_eq_getElem hlt⟩
          have hbw := HJw.out _ _ HJT.out
          obtain ⟨pj, cj, Sj, hSj, -⟩ := (hargs j a ha).inv
          have hsub := HIH.out j a ha a (d + 1)
          rw [hSj] at hsub
          have HSUB := Lib.hid hsub
          clear hsub
          have hPa := hP1.2 a (List.mem_of_getElem? ha)
          have hd100 := hP1.1
          have hna := hname j a ha
          have HWD := Lib.hid (walkL_drop step t (d + 1) l' j a ha)
          obtain ⟨b, o, rfl, hc⟩ := hfit (by rintro rfl; simp at hlt)
          obtain ⟨e0, e1, e2, e3⟩ := hc j a ha
          have c0 := below_cell hbw e0
          have c1 := below_cell hbw e1
          have c2 := below_cell hbw e2
          have c4 := below_cell hbw e3
          have hz := cell_lt c0
          rw [hSj] at c4
          clear e0 e1 e2 e3 hc hbw ha hSj
          obtain ⟨oa, na, nma, la⟩ := a
          simp only [Ex.op, Ex.n, Ex.name, Ex.args] at c0 c1 c2 c4 hna
          have hV2 := cell_lt cVr
          have hw1 : IntKind.i64.wrap ((d : Int) + 1) = ((d + 1 : Nat) : Int) := by rw [IntKind.wrap_i64]; omega
          gi_wp2_with fail
          obtain ⟨W6, hW6⟩ : ∃ W6, wr.alloc (.cells #[.int .i64 oa, .int .i64 na, .string nma, .slice pj la.length cj] 24) = W6 := ⟨_, rfl⟩
          have hb6 : Below wr.heap.size wr W6 := by rw [← hW6]; exact (Below.refl _ _).alloc (Nat.le_refl _) _
          have HK6 := Lib.hid (KF.below hb6)
          have hcall := HSUB.out t W6 (by trivial) hna hPa (HJb.out _ _ _ HJT.out hb6)
            (HK6.out _ _ _ _ (.inl rfl) (HK.out _ _ _ _ (.inl rfl) (HK5.out _ _ _ _ (.inl rfl) (HK1.out _ _ _ _ (.inl rfl) HBY.out))))
            (HK6.out _ _ _ _ (.inl rfl) (HK.out _ _ _ _ (.inl rfl) (HK5.out _ _ _ _ (.inl rfl) (HK1.out _ _ _ _ (.inl rfl) HBV.out))))
          rw [hW6]
          obtain ⟨⟨t6, b6⟩, hr6⟩ : ∃ r, walkX step t (d + 1) (.mk oa na nma la) = r := ⟨_, rfl⟩
          rw [hr6] at hcall
          have HWD' := HWD
          rw [hr6] at HWD'
          have HC := Lib.hid hcall
          clear hcall hr6 hb6 HWD
          refine ⟨trivial, (callsIn_wide.2 (show Calls Tryz.prog 96 #[.agg #[.int .i64 oa, .int .i64 na, .string nma, .slice pj la.length cj], .int .i64 ((d : Int) + 1), .pointer (some ⟨Y, 0, none⟩), .pointer (some ⟨V, 0, none⟩)] W6 _ from HC.out)).mono ?_⟩
          rintro e w7 ⟨rfl, hj7, hk7⟩
          have HK7 := Lib.hid (HK.out.trans (HK6.out.trans hk7))
          clear hk7 HC hW6 hw1
          cases b6 with
          | false =>
            have HJ7 := Lib.hid hj7
            clear hj7
            gi_wp2
            go_ret
            have h := HWD'.out
            rw [if_neg (by simp), HWL.out] at h
            rw [h]
            exact ⟨rfl, HJ7.out, HK1.out.trans (HK5.out.trans HK7.out)⟩
          | true =>
            have HJ7 := Lib.hid hj7
            clear hj7
            gi_wp2
            go_round
            case rel => exact ⟨j + 1, t6, by omega, by go_num, HJ7.out, HK7.out, (HWD'.out.trans (if_pos trivial)).symm.trans HWL.out⟩
            case measure => simp [intOf]; omega
        · obtain rfl : j = l'.length := by omega
          gi_wp2
          go_ret
          have h := HWL.out
          rw [List.drop_length, walkL] at h
          rw [← h]
          exact ⟨rfl, HJT.out, HK1.out.trans (HK5.out.trans HK.out)⟩
end Go.Proofs.YtiledamgmppcmaaGreatDoor
/-! ExD -/
namespace Go.Proofs.YtiledamgmppcmaaGreatDoor
open Go.RowKit

attribute [local go_sem] Oper.semAt_some

theorem nodes_any (v : Value) (x : Ex) (w : World) (h : ExAt w v x) :
    Calls Tryz.prog 49 #[v] w fun e w' => e = .returned (.func (.func 95) #[] #[.pointer (some ⟨w.heap.size, 0, none⟩)]) ∧ w.alloc (.cells v.cells 24) = w' := by
  have hmf : ∀ (fn : Fn) (first cap : Array Value) (w : World), (Instr.makeFunc fn first cap).run Tryz.prog w = .ok (.func fn first cap) w := fun _ _ _ _ => rfl
  obtain ⟨s, rfl, hn, ha⟩ := h
  obtain ⟨p, cap, S, rfl, hcap, hmax, -⟩ := ha.inv
  obtain ⟨op, n, nm, l⟩ := x
  simp only [Ex.val, Ex.op, Ex.n, Ex.name, Ex.args]
  go_enter Tryz.func49, Tryz.ntmps49
  go_wp2
  go_ret
  exact ⟨rfl, rfl⟩

def NodesPost {σ : Type} (J Jx : σ → World → Prop) (r : σ × Bool) (e : Ending) (W' : World) : Prop :=
  e = .returned (.tuple #[]) ∧ (if r.2 = true then J r.1 W' else Jx r.1 W')
set_option maxRecDepth 100000 in
set_option maxHeartbeats 4000000 in
theorem nodes1_any {σ : Type} (step : σ → Ex → Nat → σ × Bool) (J Jx : σ → World → Prop) (P : Ex → Nat → Prop) (w : World) (l XB : Nat)
    (hJw : ∀ s W, J s W → Below w.heap.size w W) (hJb : ∀ s W W', J s W → Below W.heap.size W W' → J s W')
    (hY : ∀ s x v d W, J s W → P x d → ExAt w v x → YieldAt Fence.wide 4 Tryz.prog l #[v, .int .i64 (d : Nat)] W (VisitPost J Jx (step s x d) W))
    (hP : ∀ s x d, P x d → (step s x d).2 = true → d ≤ 100 ∧ ∀ a ∈ x.args, P a (d + 1))
    (v : Value) (x : Ex) (s : σ) (W0 : World) (hx : ExAt w v x) (hPx : P x 1) (hJ : J s W0) (hb : W0.heap[XB]? = some (.cells v.cells 24 (0, 0))) :
    Calls Tryz.prog 95 #[.func (.yield l) #[] #[], .pointer (some ⟨XB, 0, none⟩)] W0 (NodesPost J Jx (walkX step s 1 x)) := by
  have hmf : ∀ (fn : Fn) (first cap : Array Value) (w : World), (Instr.makeFunc fn first cap).run Tryz.prog w = .ok (.func fn first cap) w := fun _ _ _ _ => rfl
  obtain ⟨sl, rfl, hn, ha⟩ := hx
  have HV := Lib.hid (visit_args step J Jx P w l W0.heap.size (W0.heap.size + 1) hJw hJb hY hP ha x 1 s)
  obtain ⟨p, cap, S, rfl, hcap, hmax, -⟩ := ha.inv
  have HJb := Lib.hid hJb
  have HJ := Lib.hid hJ
  obtain ⟨op, n, nm, args⟩ := x
  simp only [Ex.val, Ex.op, Ex.n, Ex.name, Ex.args, Value.cells] at hb hn hcap
  have c0 : W0.cell? ⟨XB, 0, none⟩ = _ := cell_of_row _ _ _ _ _ _ hb
  have c1 : W0.cell? ⟨XB, 1, none⟩ = _ := cell_of_row _ _ _ _ _ _ hb
  have c2 : W0.cell? ⟨XB, 2, none⟩ = _ := cell_of_row _ _ _ _ _ _ hb
  have c3 : W0.cell? ⟨XB, 3, none⟩ = _ := cell_of_row _ _ _ _ _ _ hb
  simp only [List.getElem?_toArray, List.getElem?_cons_zero, List.getElem?_cons_succ] at c0 c1 c2 c3
  have hz := lt_some hb
  clear hJw hJb hY hP hb ha
  go_enter Tryz.func95, Tryz.ntmps95
  go_wp2_with fail
  refine (HV.out _ (by trivial) hn hPx (HJb.out _ _ _ HJ.out ?_) (heap_alloc_lt (heap_alloc_at rfl)) (heap_alloc_at (by simp))).mono ?_
  · exact ((Below.refl _ _).alloc (Nat.le_refl _) _).alloc (by simp) _
  rintro e w5 ⟨rfl, hj, -⟩
  have HJ5 := Lib.hid hj
  clear hj
  go_wp2
  go_end0
  exact ⟨rfl, HJ5.out⟩
end Go.Proofs.YtiledamgmppcmaaGreatDoor
/-! ExE -/
namespace Go.Proofs.YtiledamgmppcmaaGreatDoor
open Go.RowKit

attribute [local go_sem] Oper.semAt_some

def chkStep (left : Nat) (x : Ex) (d : Nat) : Nat × Bool := (left - 1, decide (left ≠ 0) && decide (d ≤ 12) && plainX x)
mutual
theorem vis_walk (left d : Nat) : (x : Ex) → vis left d x = if (walkX chkStep left d x).2 = true then some (walkX chkStep left d x).1 else none
  | .mk op n nm l => by
    rw [vis_eq, walkX_eq]
    by_cases h : left = 0 ∨ 12 < d ∨ plainX (.mk op n nm l) = false
    · rw [if_pos h]
      have : (chkStep left (.mk op n nm l) d).2 = false := by
        simp only [chkStep, Bool.and_eq_false_iff, decide_eq_false_iff_not]
        rcases h with h | h | h
        · exact .inl (.inl (by omega))
        · exact .inl (.inr (by omega))
        · exact .inr h
      rw [this]; simp
    · rw [if_neg h]
      have h' : (chkStep left (.mk op n nm l) d).2 = true := by
        simp only [chkStep, Bool.and_eq_true, decide_eq_true_eq]
        refine ⟨⟨by omega, by omega⟩, ?_⟩
        cases hp : plainX (.mk op n nm l) with
        | true => rfl
        | false => exact absurd (.inr (.inr hp)) h
      rw [if_pos h']
      exact visL_walk (left - 1) (d + 1) l
theorem visL_walk (left d : Nat) : (l : List Ex) → visL left d l = if (walkL chkStep left d l).2 = true then some (walkL chkStep left d l).1 else none
  | [] => by simp [visL, walkL]
  | x :: r => by
    rw [visL, walkL, vis_walk left d x]
    by_cases h : (walkX chkStep left d x).2 = true
    · rw [if_pos h, if_pos h]; exact visL_walk _ d r
    · rw [if_neg h, if_neg h]; simp
end

/-- Between two rounds of Check's loop. -/
theorem KF.put {W : World} {l : Nat} {ρ : Loop} (o' : Obj) (h : W.heap[l]? = some (.loop ρ)) : KF W (W.putObj l o') := by
  intro b C t f _ hb
  refine (World.putObj_heap_other ?_).trans hb
  rintro rfl
  rw [h] at hb; cases hb
theorem KF.set {W : World} {b : Nat} {C : Array Value} {t : TypeId} (v : Value) (h : W.heap[b]? = some (.cells C t (0, 0))) (h1 : t ≠ 162) (h2 : t ≠ 24) : KF W (W.setCell ⟨b, 0, none⟩ v) := by
  intro b' C' t' f ht hb
  refine set_other hb ?_ v
  rintro rfl
  rw [h] at hb; cases hb
  rcases ht with ht | ht
  · exact h1 ht
  · exact h2 ht
structure ChkJ (w : World) (ρ : Loop) (left : Int) (W : World) : Prop where
  err : W.heap[w.heap.size + 1]? = some (.cells #[.int .i64 0] 31 (0, 0))
  left_ : W.heap[w.heap.size + 2]? = some (.cells #[.int .i64 left] 3 (0, 0))
  mark : W.heap[w.heap.size + 4]? = some (.deferred (some []))
  loop : W.heap[w.heap.size + 5]? = some (.loop ρ)
  small : -1 ≤ left ∧ left ≤ 60
  below : Below w.heap.size w W
structure ChkJx (w : World) (ρ : Loop) (W : World) : Prop where
  err : W.heap[w.heap.size + 1]? = some (.cells #[.int .i64 350] 31 (0, 0))
  mark : W.heap[w.heap.size + 4]? = some (.deferred (some []))
  loop : W.heap[w.heap.size + 5]? = some (.loop ρ)
  below : Below w.heap.size w W
theorem ChkJ.kept {w : World} {ρ : Loop} {left : Int} {W W' : World} (h : ChkJ w ρ left W) (hb : Below W.heap.size W W') : ChkJ w ρ left W' :=
  ⟨(hb.block _ (lt_some h.err)).trans h.err, (hb.block _ (lt_some h.left_)).trans h.left_, (hb.block _ (lt_some h.mark)).trans h.mark, (hb.block _ (lt_some h.loop)).trans h.loop, h.small, h.below.trans (hb.mono h.below.size)⟩
theorem ChkJ.put {w : World} {ρ : Loop} {left : Int} {W : World} (h : ChkJ w ρ left W) (ρ' : Loop) : ChkJ w ρ' left (W.putObj (w.heap.size + 5) (.loop ρ')) :=
  ⟨blk_put h.err (by omega), blk_put h.left_ (by omega), blk_put h.mark (by omega), World.putObj_heap_same (lt_some h.loop), h.small, h.below.grown (grownBy_putObj' W _ _) h.below.size (fun b e => by cases e; omega)⟩
theorem ChkJx.put {w : World} {ρ : Loop} {W : World} (h : ChkJx w ρ W) (ρ' : Loop) : ChkJx w ρ' (W.putObj (w.heap.size + 5) (.loop ρ')) :=
  ⟨blk_put h.err (by omega), blk_put h.mark (by omega), World.putObj_heap_same (lt_some h.loop), h.below.grown (grownBy_putObj' W _ _) h.below.size (fun b e => by cases e; omega)⟩

theorem ChkJ.dec {w : World} {ρ : Loop} {z : Int} {W : World} (h : ChkJ w ρ z W) (hz : 0 ≤ z) : ChkJ w ρ (z - 1) (W.setCell ⟨w.heap.size + 2, 0, none⟩ (.int .i64 (z - 1))) ∧ KF W (W.setCell ⟨w.heap.size + 2, 0, none⟩ (.int .i64 (z - 1))) :=
  ⟨⟨set_other h.err (by omega) _, Boxed.set _ h.left_, set_other h.mark (by omega) _, set_other h.loop (by omega) _, by have := h.small; omega, h.below.setCell (p := ⟨w.heap.size + 2, 0, none⟩) (by show _ ≤ _ + 2; omega) _⟩, KF.set _ h.left_ (by decide) (by decide)⟩
theorem ChkJ.stop {w : World} {ρ : Loop} {z : Int} {W : World} (h : ChkJ w ρ z W) : ChkJx w ρ (W.setCell ⟨w.heap.size + 1, 0, none⟩ (.int .i64 350)) ∧ KF W (W.setCell ⟨w.heap.size + 1, 0, none⟩ (.int .i64 350)) :=
  ⟨⟨Boxed.set _ h.err, set_other h.mark (by omega) _, set_other h.loop (by omega) _, h.below.setCell (p := ⟨w.heap.size + 1, 0, none⟩) (Nat.le_succ _) _⟩, KF.set _ h.err (by decide) (by decide)⟩

theorem leave1 {P : Program} {f : Func} {tmps : Array Value} {k n : Nat} {R : Ending → World → Prop} {X : World} {v : Value} (hm : X.heap[k]? = some (.deferred (some []))) (hres : (results f tmps).run P (X.putObj k (.deferred none)) = .ok v (X.putObj k (.deferred none)))
    (hR : R (.returned v) (X.putObj k (.deferred none))) : LeavesInM Fence.wide n P f tmps R [{ target := .collected k, args := #[] }] .returning X := by
  refine ⟨by simp, .inl ⟨_, _, rfl, run_takeDeferred hm, ?_⟩⟩
  exact ⟨_, hres, hR⟩
theorem visit_no {σ : Type} {J Jx : σ → World → Prop} {r : σ × Bool} {W X : World} (h : r.2 = false) (hx : Jx r.1 X) (hk : KF W X) : VisitPost J Jx r W (.returned (.bool false)) X :=
  ⟨by rw [h], by rw [h, if_neg (by simp)]; exact hx, hk⟩
theorem visit_yes {σ : Type} {J Jx : σ → World → Prop} {r : σ × Bool} {W X : World} (h : r.2 = true) (hx : J r.1 X) (hk : KF W X) : VisitPost J Jx r W (.returned (.bool true)) X :=
  ⟨by rw [h], by rw [h, if_pos rfl]; exact hx, hk⟩

set_option maxRecDepth 100000 in
set_option maxHeartbeats 4000000 in
theorem xcheck_any (v : Value) (x : Ex) (w : World) (hx : ExAt w v x) :
    Calls Tryz.prog 18 #[v] w fun e w' => e = .returned (.int .i64 (checkX x)) ∧ Below w.heap.size w w' := by
  refine (callsIn_wide (n := 6)).1 ?_
  have hx0 := hx
  obtain ⟨sl, rfl, hn, ha⟩ := hx
  obtain ⟨p, cap, S, rfl, hcap, hmax, -⟩ := ha.inv
  obtain ⟨op, n, nm, args⟩ := x
  simp only [Ex.val, Ex.op, Ex.n, Ex.name, Ex.args] at hn hcap hx0 ⊢
  have HX := Lib.hid hx0
  clear ha hx0
  refine callsIn_of_wp_marks Tryz.func18 rfl trivial ?_ rfl
  simp only [Tryz.ntmps18, List.size_toArray, List.length_cons, List.length_nil, Nat.reduceAdd, Nat.reduceSub, Array.replicate_succ, Array.replicate_zero, List.push_toArray, List.append_toArray, List.nil_append, List.cons_append]
  gi_wp2_with fail
  refine ⟨trivial, (callsIn_wide.2 (nodes_any _ _ _ (HX.out.mono ?_))).mono ?_⟩
  · exact (((Below.refl _ _).alloc (Nat.le_refl _) _).alloc (by simp) _).alloc (by simp; omega) _
  rintro e w' ⟨rfl, rfl⟩
  simp only [Value.cells, World.size_alloc, Nat.add_assoc, Nat.reduceAdd]
  gi_wp2
  obtain ⟨W0, hW0⟩ : ∃ W0, (((w.alloc (.cells #[.int .i64 op, .int .i64 n, .string nm, .slice p args.length cap] 24)).alloc (.cells #[.int .i64 0] 31)).alloc (.cells #[.int .i64 60] 3)).alloc (.cells #[.int .i64 op, .int .i64 n, .string nm, .slice p args.length cap] 24) = W0 := ⟨_, rfl⟩
  have hs0 : W0.heap.size = w.heap.size + 4 := by rw [← hW0]; simp
  have hb0 : Below w.heap.size w W0 := by rw [← hW0]; exact ((((Below.refl _ _).alloc (Nat.le_refl _) _).alloc (by simp) _).alloc (by simp; omega) _).alloc (by simp; omega) _
  have h1 : W0.heap[w.heap.size + 1]? = some (.cells #[.int .i64 0] 31 (0, 0)) := by rw [← hW0]; exact heap_alloc_lt (heap_alloc_lt (heap_alloc_at (by simp)))
  have h2 : W0.heap[w.heap.size + 2]? = some (.cells #[.int .i64 60] 3 (0, 0)) := by rw [← hW0]; exact heap_alloc_lt (heap_alloc_at (by simp))
  have h3 : W0.heap[w.heap.size + 3]? = some (.cells #[.int .i64 op, .int .i64 n, .string nm, .slice p args.length cap] 24 (0, 0)) := by rw [← hW0]; exact heap_alloc_at (by simp)
  rw [hW0]
  refine wpIn_rangeFunc_raw rfl (by omega) (gf := 95) (lb := #[.pointer (some ⟨w.heap.size + 3, 0, none⟩)]) rfl trivial (enters_of Tryz.func95 (by kernel_rfl) rfl) ?_
  intro ρ hround
  rw [hs0] at hround ⊢
  simp only [Nat.add_assoc, Nat.reduceAdd] at hround ⊢
  have HJ0 : Hid (ChkJ w (ρ .ready none) 60 ((W0.alloc (.deferred (some []))).alloc (.loop (ρ .ready none)))) := Lib.hid
    ⟨heap_alloc_lt (heap_alloc_lt h1), heap_alloc_lt (heap_alloc_lt h2), heap_alloc_lt (heap_alloc_at hs0.symm), heap_alloc_at (by simp [hs0]), by omega, (hb0.alloc hb0.size _).alloc (by simp [hs0]; omega) _⟩
  have HX3 := Lib.hid (heap_alloc_lt (o := .loop (ρ .ready none)) (heap_alloc_lt (o := .deferred (some [])) h3))
  clear hW0 hb0 h1 h2 h3
  refine (callsIn_wide.2 (nodes1_any chkStep (fun k => ChkJ w (ρ .ready none) (k : Int)) (fun _ => ChkJx w (ρ .done (some .ret))) (fun _ d => d ≤ 13) w (w.heap.size + 5) (w.heap.size + 3) (fun _ _ h => h.below) (fun _ _ _ h hb => h.kept hb) ?_ ?_ _ _ 60 _ HX.out (by omega) HJ0.out (by simpa [Value.cells] using HX3.out))).mono ?_
  · rintro s y v' d W hJ hd ⟨sy, rfl, hny, hay⟩
    have hEy : ExAt w (y.val sy) y := ⟨sy, rfl, hny, hay⟩
    obtain ⟨py, cy, Sy, rfl, hcy, hmy, -⟩ := hay.inv
    have HST : Hid (chkStep s y d = (s - 1, decide (s ≠ 0) && decide (d ≤ 12) && plainX y)) := Lib.hid rfl
    obtain ⟨op2, n2, nm2, l2⟩ := y
    refine yieldAt_wide (m := 4) ?_
    simp only [Ex.val, Ex.op, Ex.n, Ex.name, Ex.args] at hEy hny hcy ⊢
    refine hround #[_, _] W _ rfl hJ.loop ?_
    have HJ := Lib.hid hJ
    have HE := Lib.hid hEy
    clear hround hJ hay hEy
    gi_wp2
    have hb1 : Below W.heap.size W (W.alloc (.cells #[.int .i64 op2, .int .i64 n2, .string nm2, .slice py l2.length cy] 24)) := (Below.refl _ _).alloc (Nat.le_refl _) _
    have hJ1 := HJ.out.kept hb1
    refine ⟨hJ1.loop, ?_⟩
    refine wpIn_world (G := fun W2 => ChkJ w (ρ .busy none) s W2 ∧ W2.heap[W.heap.size]? = some (.cells #[.int .i64 op2, .int .i64 n2, .string nm2, .slice py l2.length cy] 24 (0, 0)) ∧ KF W W2) ⟨?_, ?_, ?_⟩ ?_
    · exact hJ1.put _
    · exact blk_put (heap_alloc_new W _) (by have := lt_some HJ.out.loop; omega)
    · exact (KF.below hb1).trans (KF.put _ hJ1.loop)
    rintro W2 ⟨hJ2, hrow, hk2⟩
    have c1 : W2.cell? ⟨w.heap.size + 1, 0, none⟩ = _ := cell_of_row _ _ _ _ _ _ hJ2.err
    have c2 : W2.cell? ⟨w.heap.size + 2, 0, none⟩ = _ := cell_of_row _ _ _ _ _ _ hJ2.left_
    have f1 : W2.frozen? ⟨w.heap.size + 1, 0, none⟩ = _ := frozen_of_row _ _ _ _ _ hJ2.err
    have f2 : W2.frozen? ⟨w.heap.size + 2, 0, none⟩ = _ := frozen_of_row _ _ _ _ _ hJ2.left_
    have d0 : W2.cell? ⟨W.heap.size, 0, none⟩ = _ := cell_of_row _ _ _ _ _ _ hrow
    have d1 : W2.cell? ⟨W.heap.size, 1, none⟩ = _ := cell_of_row _ _ _ _ _ _ hrow
    have d2 : W2.cell? ⟨W.heap.size, 2, none⟩ = _ := cell_of_row _ _ _ _ _ _ hrow
    have d3 : W2.cell? ⟨W.heap.size, 3, none⟩ = _ := cell_of_row _ _ _ _ _ _ hrow
    simp only [List.getElem?_toArray, List.getElem?_cons_zero, List.getElem?_cons_succ] at c1 c2 d0 d1 d2 d3
    have hsm := hJ2.small
    have hwW := lt_some HJ.out.loop
    have HJ2 := Lib.hid hJ2
    have HK2 := Lib.hid hk2
    clear hb1 hJ1 hJ2 hrow hk2
    have hdec := HJ2.out.dec (by omega)
    have hstop := hdec.1.stop
    have HD := Lib.hid hdec
    have HSTOP := Lib.hid hstop
    clear hdec hstop
    by_cases hs0' : s = 0
    · subst hs0'
      gi_wp2
      refine ⟨trivial, ?_⟩
      gi_wp2
      refine ⟨HSTOP.out.1.loop, ?_⟩
      exact visit_no (by simp [chkStep]) (HSTOP.out.1.put _) (HK2.out.trans (HD.out.2.trans (HSTOP.out.2.trans (KF.put _ HSTOP.out.1.loop))))
    · have hs1 : ¬ ((s : Int) - 1 < 0) := by omega
      by_cases hd12 : 12 < d
      · have hd2 : decide (12 < (d : Int)) = true := by simp; omega
        gi_wp2
        refine ⟨trivial, ?_⟩
        gi_wp2
        refine ⟨HSTOP.out.1.loop, ?_⟩
        exact visit_no (by simp [chkStep]; omega) (HSTOP.out.1.put _) (HK2.out.trans (HD.out.2.trans (HSTOP.out.2.trans (KF.put _ HSTOP.out.1.loop))))
      · have hd2 : decide (12 < (d : Int)) = false := by simp; omega
        gi_wp2_with fail
        obtain ⟨W3, hW3⟩ : ∃ W3, W2.setCell ⟨w.heap.size + 2, 0, none⟩ (.int .i64 ((s : Int) - 1)) = W3 := ⟨_, rfl⟩
        rw [hW3] at HD
        rw [hW3]
        have HD1 := HD.out.1
        refine ⟨trivial, (CallsIn.inRound _ (callsIn_wide.2 (plain_any _ (.mk op2 n2 nm2 l2) W3 (HE.out.mono HD1.below)))).mono ?_⟩
        rintro e w6 ⟨rfl, hb6⟩
        have hJ6 := HD1.kept hb6
        have hK6 := HK2.out.trans (HD.out.2.trans (KF.below hb6))
        have hst6 := hJ6.stop
        have g1 : w6.cell? ⟨w.heap.size + 1, 0, none⟩ = _ := cell_of_row _ _ _ _ _ _ hJ6.err
        have g2 : w6.frozen? ⟨w.heap.size + 1, 0, none⟩ = _ := frozen_of_row _ _ _ _ _ hJ6.err
        simp only [List.getElem?_toArray, List.getElem?_cons_zero] at g1
        have HJ6 := Lib.hid hJ6
        have HK6 := Lib.hid hK6
        have HS6 := Lib.hid hst6
        clear hb6 hJ6 hK6 hst6 HD1 HD HSTOP hW3
        cases hp : plainX (.mk op2 n2 nm2 l2) with
        | false =>
          have HP := Lib.hid hp
          clear hp
          gi_wp2
          refine ⟨HS6.out.1.loop, ?_⟩
          exact visit_no (by simp [chkStep, HP.out]) (HS6.out.1.put _) (HK6.out.trans (HS6.out.2.trans (KF.put _ HS6.out.1.loop)))
        | true =>
          have HP := Lib.hid hp
          clear hp
          gi_wp2
          refine ⟨HJ6.out.loop, ?_⟩
          refine visit_yes (by simp [chkStep, HP.out]; omega) ?_ (HK6.out.trans (KF.put _ HJ6.out.loop))
          have e : (((chkStep s (.mk op2 n2 nm2 l2) d).1 : Nat) : Int) = (s : Int) - 1 := by simp only [chkStep]; omega
          show ChkJ w _ (((chkStep s (.mk op2 n2 nm2 l2) d).1 : Nat) : Int) _
          rw [e]
          exact HJ6.out.put _
  · intro s y d _ h
    simp only [chkStep, Bool.and_eq_true, decide_eq_true_eq] at h
    exact ⟨by omega, fun _ _ => by omega⟩
  · have hvw := vis_walk 60 1 (.mk op n nm args)
    obtain ⟨⟨k, c⟩, hr⟩ : ∃ r, walkX chkStep 60 1 (.mk op n nm args) = r := ⟨_, rfl⟩
    rw [hr] at hvw
    rw [hr]
    clear hr hround HJ0 HX3
    rintro e W ⟨rfl, hj⟩
    cases c with
    | false =>
      have HC : Hid (checkX (.mk op n nm args) = 350) := Lib.hid (by unfold checkX validX; rw [hvw]; rfl)
      have hX := (show ChkJx w (ρ .done (some .ret)) W from hj)
      have HJ := Lib.hid (hX.put (ρ .exhausted (some .ret)))
      refine .inr ⟨_, hX.loop, ?_⟩
      clear hvw hj hX
      gi_wp2
      have hm := HJ.out.mark
      have he := blk_put (o' := .deferred none) HJ.out.err (show w.heap.size + 1 ≠ w.heap.size + 4 by omega)
      have hb := HJ.out.below.grown (grownBy_putObj' _ (w.heap.size + 4) (.deferred none)) HJ.out.below.size (fun b e => by cases e; omega)
      generalize W.putObj (w.heap.size + 5) (.loop (ρ .exhausted (some .ret))) = X at hm he hb ⊢
      have g1 : (X.putObj (w.heap.size + 4) (.deferred none)).cell? ⟨w.heap.size + 1, 0, none⟩ = _ := cell_of_row _ _ _ _ _ _ he
      simp only [List.getElem?_toArray, List.getElem?_cons_zero] at g1
      refine leave1 (k := w.heap.size + 4) (v := .int .i64 350) hm ?_ ⟨by rw [HC.out], hb⟩
      generalize X.putObj (w.heap.size + 4) (.deferred none) = Y at g1 ⊢
      simp [results, Tryz.results18, go_sem, g1]
    | true =>
      have HC : Hid (checkX (.mk op n nm args) = 0) := Lib.hid (by unfold checkX validX; rw [hvw]; rfl)
      have hX := (show ChkJ w (ρ .ready none) (k : Int) W from hj)
      have hJ := hX.put (ρ .exhausted none)
      refine .inl ⟨hX.loop, ?_⟩
      have g1 : (W.putObj (w.heap.size + 5) (.loop (ρ .exhausted none))).cell? ⟨w.heap.size + 1, 0, none⟩ = _ := cell_of_row _ _ _ _ _ _ hJ.err
      have g2 : (W.putObj (w.heap.size + 5) (.loop (ρ .exhausted none))).frozen? ⟨w.heap.size + 1, 0, none⟩ = _ := frozen_of_row _ _ _ _ _ hJ.err
      simp only [List.getElem?_toArray, List.getElem?_cons_zero] at g1
      have HJ := Lib.hid hJ
      clear hvw hj hX hJ
      gi_wp2
      have hm := set_other HJ.out.mark (b' := w.heap.size + 1) (by omega) (.int .i64 0)
      have he := Boxed.set (.int .i64 0) HJ.out.err
      have hb := HJ.out.below.setCell (p := ⟨w.heap.size + 1, 0, none⟩) (Nat.le_succ _) (.int .i64 0)
      generalize (W.putObj (w.heap.size + 5) (.loop (ρ .exhausted none))).setCell ⟨w.heap.size + 1, 0, none⟩ (.int .i64 0) = X at hm he hb ⊢
      have he2 := blk_put (o' := .deferred none) he (show w.heap.size + 1 ≠ w.heap.size + 4 by omega)
      have hb2 := hb.grown (grownBy_putObj' _ (w.heap.size + 4) (.deferred none)) hb.size (fun b e => by cases e; omega)
      have g1 : (X.putObj (w.heap.size + 4) (.deferred none)).cell? ⟨w.heap.size + 1, 0, none⟩ = _ := cell_of_row _ _ _ _ _ _ he2
      simp only [List.getElem?_toArray, List.getElem?_cons_zero] at g1
      refine leave1 (k := w.heap.size + 4) (v := .int .i64 0) hm ?_ ⟨by rw [HC.out], hb2⟩
      generalize X.putObj (w.heap.size + 4) (.deferred none) = Y at g1 ⊢
      simp [results, Tryz.results18, go_sem, g1]
end Go.Proofs.YtiledamgmppcmaaGreatDoor
/-! ExF -/
namespace Go.Proofs.YtiledamgmppcmaaGreatDoor
open Go.RowKit

set_option maxHeartbeats 2000000 in
theorem arity_any (op : Int) (w : World) :
    Calls Tryz.prog 141 #[.int .i64 op] w fun e w' => e = .returned (.int .i64 (arityN op)) ∧ w = w' := by
  by_cases h : 1 ≤ op ∧ op ≤ 19
  · obtain ⟨k, rfl⟩ := Int.eq_ofNat_of_zero_le (show 0 ≤ op by omega)
    obtain rfl | rfl | rfl | rfl | rfl | rfl | rfl | rfl | rfl | rfl | rfl | rfl | rfl | rfl | rfl | rfl | rfl | rfl | rfl : k = 1 ∨ k = 2 ∨ k = 3 ∨ k = 4 ∨ k = 5 ∨ k = 6 ∨ k = 7 ∨ k = 8 ∨ k = 9 ∨ k = 10 ∨ k = 11 ∨ k = 12 ∨ k = 13 ∨ k = 14 ∨ k = 15 ∨ k = 16 ∨ k = 17 ∨ k = 18 ∨ k = 19 := by omega
    all_goals
      go_enter Tryz.func141, Tryz.ntmps141
      go_wp2
      go_ret
      exact ⟨rfl, rfl⟩
  · have HA := Lib.hid (arity_out op (by omega))
    have h1 : (op == 1) = false := by simp; omega
    have h2 : (op == 2) = false := by simp; omega
    have h3 : (op == 3) = false := by simp; omega
    have h4 : (op == 4) = false := by simp; omega
    have h5 : (op == 5) = false := by simp; omega
    have h6 : (op == 6) = false := by simp; omega
    have h7 : (op == 7) = false := by simp; omega
    have h8 : (op == 8) = false := by simp; omega
    have h9 : (op == 9) = false := by simp; omega
    have h10 : (op == 10) = false := by simp; omega
    have h11 : (op == 11) = false := by simp; omega
    have h12 : (op == 12) = false := by simp; omega
    have h13 : (op == 13) = false := by simp; omega
    have h14 : (op == 14) = false := by simp; omega
    have h15 : (op == 15) = false := by simp; omega
    have h16 : (op == 16) = false := by simp; omega
    have h17 : (op == 17) = false := by simp; omega
    have h18 : (op == 18) = false := by simp; omega
    have h19 : (op == 19) = false := by simp; omega
    clear h
    go_enter Tryz.func141, Tryz.ntmps141
    go_wp2
    go_ret
    exact ⟨by rw [HA.out]; rfl, rfl⟩

theorem check_name (l : List UInt8) : (checkE 1 l 0 = 0) ↔ nameB l = true := by
  unfold checkE rightB
  rw [if_pos rfl]
  cases h : nameB l with
  | true => simp
  | false => simp
mutual
theorem vis_le (left d k : Nat) : (x : Ex) → vis left d x = some k → k ≤ left
  | .mk op n nm l => by
    rw [vis_eq]
    intro h
    split at h
    · cases h
    · exact Nat.le_trans (visL_le _ _ _ l h) (Nat.sub_le _ _)
theorem visL_le (left d k : Nat) : (l : List Ex) → visL left d l = some k → k ≤ left
  | [] => by simp [visL]; omega
  | x :: r => by
    rw [visL]
    intro h
    cases hv : vis left d x with
    | none => rw [hv] at h; cases h
    | some m => rw [hv] at h; exact Nat.le_trans (visL_le _ _ _ r h) (vis_le _ _ _ x hv)
end
def cntV : Option Nat → Int
  | none => -1
  | some k => k

set_option maxRecDepth 100000 in
set_option maxHeartbeats 4000000 in
theorem count_args {w : World} {sl : Value} {args : List Ex} (h : ArgsAt w sl args) : ∀ (x : Ex) (left d : Nat) (W : World), x.args = args → x.name.size ≤ 9223372036854775807 → left ≤ 60 → d ≤ 13 → Below w.heap.size w W →
    Calls Tryz.prog 98 #[x.val sl, .int .i64 left, .int .i64 d] W fun e w' => e = .returned (.int .i64 (cntV (vis left d x))) ∧ Below W.heap.size W w' := by
  induction h with
  | mk p cap args S hcap hmax hfit hname hargs ih =>
    intro x left d W hxa hxn hleft hd hbW
    obtain ⟨op, n, nm, l⟩ := x
    obtain rfl : l = args := hxa
    simp only [Ex.val, Ex.op, Ex.n, Ex.name] at hxn ⊢
    have HBW := Lib.hid hbW
    have HV := Lib.hid (vis_eq left d (.mk op n nm l))
    have HIH := Lib.hid ih
    clear ih hbW
    obtain ⟨W1, hW1⟩ : ∃ W1, W.alloc (.cells #[.int .i64 op, .int .i64 n, .string nm, .slice p l.length cap] 24) = W1 := ⟨_, rfl⟩
    have hb1 : Below W.heap.size W W1 := by rw [← hW1]; exact (Below.refl _ _).alloc (Nat.le_refl _) _
    have hrow : W1.heap[W.heap.size]? = some (.cells #[.int .i64 op, .int .i64 n, .string nm, .slice p l.length cap] 24 (0, 0)) := by rw [← hW1]; exact heap_alloc_new W _
    have c0 : W1.cell? ⟨W.heap.size, 0, none⟩ = some (.int .i64 op) := cell_of_row _ _ _ _ _ _ hrow
    have c1 : W1.cell? ⟨W.heap.size, 1, none⟩ = some (.int .i64 n) := cell_of_row _ _ _ _ _ _ hrow
    have c2 : W1.cell? ⟨W.heap.size, 2, none⟩ = some (.string nm) := cell_of_row _ _ _ _ _ _ hrow
    have c3 : W1.cell? ⟨W.heap.size, 3, none⟩ = some (.slice p l.length cap) := cell_of_row _ _ _ _ _ _ hrow
    have l0 := later_cell c0
    have l3 := later_cell c3
    have HW1 := Lib.hid hW1
    have HB1 := Lib.hid hb1
    have HC0 := Lib.hid c0
    have HC1 := Lib.hid c1
    have HC2 := Lib.hid c2
    have HC3 := Lib.hid c3
    clear hW1 hb1 hrow c0 c1 c2 c3
    obtain ⟨A, hAr⟩ : ∃ A, arityN op = A := ⟨_, rfl⟩
    have HAR := Lib.hid hAr
    have HP3 : Hid (¬ (A = (l.length : Int)) → plainX (.mk op n nm l) = false) := Lib.hid (fun h => plainX_no (by rw [hAr]; omega))
    clear hAr
    by_cases g1 : left = 0
    · have HA : Hid (cntV (vis left d (.mk op n nm l)) = -1) := Lib.hid (by rw [HV.out, if_pos (.inl g1)]; rfl)
      subst g1
      have hd1 : decide (((0 : Nat) : Int) < 1) = true := rfl
      go_enter Tryz.func98, Tryz.ntmps98
      go_wp2_with fail
      rw [HW1.out]
      refine wp_region_later (by kernel_rfl) (by kernel_rfl) ?_
      repeat (go_big_quiet_step ((go_at_call 141; exact Calls.later_of ((arity_any _ _).mono fun _ _ ⟨he, hw⟩ => ⟨by rw [he, HAR.out], by rw [← hw]; exact Below.refl _ _⟩))))
      refine wpQuiet_nil ?_
      intro w2 hb2
      go_wp2
      go_ret
      exact ⟨by rw [HA.out]; rfl, HB1.out.trans (hb2.mono HB1.out.size)⟩
    · have hd1 : decide ((left : Int) < 1) = false := by simp; omega
      by_cases g2 : 12 < d
      · have HA : Hid (cntV (vis left d (.mk op n nm l)) = -1) := Lib.hid (by rw [HV.out, if_pos (.inr (.inl g2))]; rfl)
        have hd2 : decide (12 < (d : Int)) = true := by simp; omega
        go_enter Tryz.func98, Tryz.ntmps98
        go_wp2_with fail
        rw [HW1.out]
        refine wp_region_later (by kernel_rfl) (by kernel_rfl) ?_
        repeat (go_big_quiet_step ((go_at_call 141; exact Calls.later_of ((arity_any _ _).mono fun _ _ ⟨he, hw⟩ => ⟨by rw [he, HAR.out], by rw [← hw]; exact Below.refl _ _⟩))))
        refine wpQuiet_nil ?_
        intro w2 hb2
        go_wp2
        go_ret
        exact ⟨by rw [HA.out]; rfl, HB1.out.trans (hb2.mono HB1.out.size)⟩
      · have hd2 : decide (12 < (d : Int)) = false := by simp; omega
        by_cases g3 : A = (l.length : Int)
        · subst g3
          have hd3 : (((l.length : Int)) != (l.length : Int)) = false := by simp
          by_cases e1 : op = 2
          · obtain ⟨nb, hnb⟩ : ∃ nb, nameB nm.data.toList = nb := ⟨_, rfl⟩
            have HNB := Lib.hid hnb
            have HQ : Hid (plainX (.mk op n nm l) = (nb && decide (n = 0))) := Lib.hid (by
              rw [Bool.eq_iff_iff, plainX_iff, if_pos e1, check_name, hnb, Bool.and_eq_true, decide_eq_true_eq]
              exact ⟨fun h => ⟨h.2.2.2.2, by omega⟩, fun h => ⟨HAR.out.symm, by omega, by omega, .inl h.2, h.1⟩⟩)
            clear hnb
            subst e1
            go_enter Tryz.func98, Tryz.ntmps98
            go_wp2_with fail
            rw [HW1.out]
            refine wp_region_later (by kernel_rfl) (by kernel_rfl) ?_
            repeat (go_big_quiet_step ((go_at_call 141; exact Calls.later_of ((arity_any _ _).mono fun _ _ ⟨he, hw⟩ => ⟨by rw [he, HAR.out], by rw [← hw]; exact Below.refl _ _⟩))))
            refine wpQuiet_nil ?_
            intro w2 hb2
            have k0 := below_cell hb2 HC0.out
            have k1 := below_cell hb2 HC1.out
            have k2 := below_cell hb2 HC2.out
            have k3 := below_cell hb2 HC3.out
            have HB2 := Lib.hid (HB1.out.trans (hb2.mono HB1.out.size))
            clear hb2
            go_wp2_with fail
            refine (rname_any nm _ hxn).mono ?_
            rintro e w3 ⟨rfl, hb3⟩
            rw [HNB.out]
            have m0 := below_cell hb3 k0
            have m1 := below_cell hb3 k1
            have m2 := below_cell hb3 k2
            have m3 := below_cell hb3 k3
            have HB3 := Lib.hid (HB2.out.trans (hb3.mono HB2.out.size))
            clear hb3 k0 k1 k2 k3
            cases nb with
            | false =>
              have HA : Hid (cntV (vis left d (.mk 2 n nm l)) = -1) := Lib.hid (by rw [HV.out, if_pos (.inr (.inr (by rw [HQ.out]; rfl)))]; rfl)
              go_wp2
              go_ret
              exact ⟨by rw [HA.out]; rfl, HB3.out⟩
            | true =>
              by_cases e2 : n = 0
              · subst e2
                have HVL : Hid (vis left d (.mk 2 0 nm l) = visL (left - 1) (d + 1) l) := Lib.hid (by rw [HV.out, if_neg (by rw [HQ.out]; simp; omega)]; rfl)
                have hl1 : (left : Int) - 1 = ((left - 1 : Nat) : Int) := by omega
                go_wp2_with fail
                go_loopw [1, 7] (fun c i wr => ∃ j k : Nat, j ≤ l.length ∧ k ≤ 60 ∧ c = .int .i64 k ∧ i = .int .i64 j ∧ visL k (d + 1) (l.drop j) = vis left d (.mk 2 0 nm l) ∧ Below w3.heap.size w3 wr) (fun _ i _ => l.length - (intOf i).toNat)
                case atStart => exact ⟨0, left - 1, Nat.zero_le _, by omega, by rw [← hl1], rfl, HVL.out.symm, Below.refl _ _⟩
                case round =>
                  obtain ⟨j, k, hj, hk, rfl, rfl, hvl, hB⟩ := hrel
                  have HVJ := Lib.hid hvl
                  have HB := Lib.hid hB
                  have q3 := below_cell hB m3
                  clear hvl hB m0 m1 m2 m3
                  by_cases hlt : j < l.length
                  · obtain ⟨a, ha⟩ : ∃ a, l[j]? = some a := ⟨_, List.getElem?_eq_getElem hlt⟩
                    have hbw : Below w.heap.size w wr := HBW.out.trans ((HB3.out.trans (HB.out.mono HB3.out.size)).mono HBW.out.size)
                    obtain ⟨pj, cj, Sj, hSj, -⟩ := (hargs j a ha).inv
                    have hsub := HIH.out j a ha a k (d + 1) wr rfl (hname j a ha) hk (by omega) hbw
                    rw [hSj] at hsub
                    have hdr : visL k (d + 1) (l.drop j) = match vis k (d + 1) a with | none => none | some m => visL m (d + 1) (l.drop (j + 1)) := by
                      obtain ⟨hj', rfl⟩ := List.getElem?_eq_some_iff.1 ha
                      rw [List.drop_eq_getElem_cons hj', visL]
                      all_goals (cases vis k (d + 1) l[j] <;> rfl)
                    have hle := fun m => vis_le k (d + 1) m a
                    obtain ⟨b, o, rfl, hc⟩ := hfit (by rintro rfl; simp at hlt)
                    obtain ⟨r0, r1, r2, r3⟩ := hc j a ha
                    have s0 := below_cell hbw r0
                    have s1 := below_cell hbw r1
                    have s2 := below_cell hbw r2
                    have s3 := below_cell hbw r3
                    rw [hSj] at s3
                    obtain ⟨V, hV⟩ : ∃ V, vis k (d + 1) a = V := ⟨_, rfl⟩
                    rw [hV] at hsub hdr
                    have HLE := Lib.hid (fun m h => hle m (hV.trans h))
                    have HDR := Lib.hid hdr
                    have HSUB := Lib.hid hsub
                    obtain ⟨oa, na, nma, la⟩ := a
                    simp only [Ex.op, Ex.n, Ex.name, Ex.args] at s0 s1 s2 s3
                    clear r0 r1 r2 r3 hc ha hSj hsub hdr hle hV hbw
                    go_wp2_with fail
                    refine HSUB.out.mono ?_
                    rintro e w5 ⟨rfl, hb5⟩
                    have HB5 := Lib.hid (HB.out.trans (hb5.mono HB.out.size))
                    have q5 := below_cell hb5 q3
                    clear hb5 q3 s0 s1 s2 s3 HB
                    cases V with
                    | none =>
                      simp only [cntV]
                      go_wp2
                      go_ret
                      have h := HVJ.out
                      rw [HDR.out] at h
                      exact ⟨by rw [← h]; rfl, HB3.out.trans (HB5.out.mono HB3.out.size)⟩
                    | some m =>
                      have hm := HLE.out m rfl
                      simp only [cntV]
                      go_wp2
                      go_roundw
                      case rel => exact ⟨j + 1, m, by omega, by omega, rfl, by go_num, by have h := HVJ.out; rw [HDR.out] at h; exact h, HB5.out⟩
                      case measure => simp [intOf]; omega
                  · obtain rfl : j = l.length := by omega
                    go_wp2
                    go_ret
                    have h := HVJ.out
                    rw [List.drop_length, visL] at h
                    exact ⟨by rw [← h]; rfl, HB3.out.trans (HB.out.mono HB3.out.size)⟩
              · have HA : Hid (cntV (vis left d (.mk 2 n nm l)) = -1) := Lib.hid (by rw [HV.out, if_pos (.inr (.inr (by rw [HQ.out]; simp [e2])))]; rfl)
                have hd4 : (n != 0) = true := by simpa using e2
                go_wp2
                go_ret
                exact ⟨by rw [HA.out]; rfl, HB3.out⟩
          · have hq : plainX (.mk op n nm l) = true ↔ (0 ≤ n ∧ n ≤ 9999 ∧ (n = 0 ∨ op = 1) ∧ nm.size = 0) := by
              rw [plainX_iff, if_neg e1]
              exact ⟨fun h => h.2, fun h => ⟨HAR.out.symm, h⟩⟩
            have HNO : Hid (¬ (0 ≤ n ∧ n ≤ 9999 ∧ (n = 0 ∨ op = 1) ∧ nm.size = 0) → cntV (vis left d (.mk op n nm l)) = -1) := Lib.hid (fun h => by
              rw [HV.out, if_pos (.inr (.inr (by cases hp : plainX (.mk op n nm l) with | false => rfl | true => exact absurd (hq.1 hp) h)))]; rfl)
            have HQ := Lib.hid hq
            clear hq
            have hop2 : (op == 2) = false := by simpa using e1
            have hop2' : (op != 2) = true := by simpa using e1
            by_cases e2 : nm.size = 0
            · have hnm := toList_of_size_zero e2
              by_cases e3 : n = 0 ∨ op = 1
              · by_cases e4 : n < 0
                · have HA := Lib.hid (HNO.out (by omega))
                  by_cases e6 : n = 0
                  · omega
                  · obtain rfl : op = 1 := by omega
                    go_enter Tryz.func98, Tryz.ntmps98
                    go_wp2_with fail
                    rw [HW1.out]
                    refine wp_region_later (by kernel_rfl) (by kernel_rfl) ?_
                    repeat (go_big_quiet_step ((go_at_call 141; exact Calls.later_of ((arity_any _ _).mono fun _ _ ⟨he, hw⟩ => ⟨by rw [he, HAR.out], by rw [← hw]; exact Below.refl _ _⟩))))
                    refine wpQuiet_nil ?_
                    intro w2 hb2
                    have k0 := below_cell hb2 HC0.out
                    have k1 := below_cell hb2 HC1.out
                    have k2 := below_cell hb2 HC2.out
                    have k3 := below_cell hb2 HC3.out
                    have HB2 := Lib.hid (HB1.out.trans (hb2.mono HB1.out.size))
                    clear hb2
                    go_wp2
                    go_ret
                    exact ⟨by rw [HA.out]; rfl, HB2.out⟩
                · by_cases e5 : 9999 < n
                  · have HA := Lib.hid (HNO.out (by omega))
                    obtain rfl : op = 1 := by omega
                    go_enter Tryz.func98, Tryz.ntmps98
                    go_wp2_with fail
                    rw [HW1.out]
                    refine wp_region_later (by kernel_rfl) (by kernel_rfl) ?_
                    repeat (go_big_quiet_step ((go_at_call 141; exact Calls.later_of ((arity_any _ _).mono fun _ _ ⟨he, hw⟩ => ⟨by rw [he, HAR.out], by rw [← hw]; exact Below.refl _ _⟩))))
                    refine wpQuiet_nil ?_
                    intro w2 hb2
                    have k0 := below_cell hb2 HC0.out
                    have k1 := below_cell hb2 HC1.out
                    have k2 := below_cell hb2 HC2.out
                    have k3 := below_cell hb2 HC3.out
                    have HB2 := Lib.hid (HB1.out.trans (hb2.mono HB1.out.size))
                    clear hb2
                    go_wp2
                    go_ret
                    exact ⟨by rw [HA.out]; rfl, HB2.out⟩
                  · have HQY := Lib.hid (HQ.out.2 ⟨by omega, by omega, e3, e2⟩)
                    by_cases e6 : n = 0
                    · subst e6
                      by_cases e7 : op = 1
                      · subst e7
                        go_enter Tryz.func98, Tryz.ntmps98
                        go_wp2_with fail
                        rw [HW1.out]
                        refine wp_region_later (by kernel_rfl) (by kernel_rfl) ?_
                        repeat (go_big_quiet_step ((go_at_call 141; exact Calls.later_of ((arity_any _ _).mono fun _ _ ⟨he, hw⟩ => ⟨by rw [he, HAR.out], by rw [← hw]; exact Below.refl _ _⟩))))
                        refine wpQuiet_nil ?_
                        intro w2 hb2
                        have k0 := below_cell hb2 HC0.out
                        have k1 := below_cell hb2 HC1.out
                        have k2 := below_cell hb2 HC2.out
                        have k3 := below_cell hb2 HC3.out
                        have HB2 := Lib.hid (HB1.out.trans (hb2.mono HB1.out.size))
                        clear hb2
                        have HVL : Hid (vis left d (.mk 1 0 nm l) = visL (left - 1) (d + 1) l) := Lib.hid (by rw [HV.out, if_neg (by rw [HQY.out]; simp; omega)]; rfl)
                        have hl1 : (left : Int) - 1 = ((left - 1 : Nat) : Int) := by omega
                        go_wp2_with fail
                        go_loopw [1, 7] (fun c i wr => ∃ j k : Nat, j ≤ l.length ∧ k ≤ 60 ∧ c = .int .i64 k ∧ i = .int .i64 j ∧ visL k (d + 1) (l.drop j) = vis left d (.mk 1 0 nm l) ∧ Below w2.heap.size w2 wr) (fun _ i _ => l.length - (intOf i).toNat)
                        case atStart => exact ⟨0, left - 1, Nat.zero_le _, by omega, by rw [← hl1], rfl, HVL.out.symm, Below.refl _ _⟩
                        case round =>
                          obtain ⟨j, k, hj, hk, rfl, rfl, hvl, hB⟩ := hrel
                          have HVJ := Lib.hid hvl
                          have HB := Lib.hid hB
                          have q3 := below_cell hB k3
                          clear hvl hB k0 k1 k2 k3
                          by_cases hlt : j < l.length
                          · obtain ⟨a, ha⟩ : ∃ a, l[j]? = some a := ⟨_, List.getElem?_eq_getElem hlt⟩
                            have hbw : Below w.heap.size w wr := HBW.out.trans ((HB2.out.trans (HB.out.mono HB2.out.size)).mono HBW.out.size)
                            obtain ⟨pj, cj, Sj, hSj, -⟩ := (hargs j a ha).inv
                            have hsub := HIH.out j a ha a k (d + 1) wr rfl (hname j a ha) hk (by omega) hbw
                            rw [hSj] at hsub
                            have hdr : visL k (d + 1) (l.drop j) = match vis k (d + 1) a with | none => none | some m => visL m (d + 1) (l.drop (j + 1)) := by
                              obtain ⟨hj', rfl⟩ := List.getElem?_eq_some_iff.1 ha
                              rw [List.drop_eq_getElem_cons hj', visL]
                              all_goals (cases vis k (d + 1) l[j] <;> rfl)
                            have hle := fun m => vis_le k (d + 1) m a
                            obtain ⟨b, o, rfl, hc⟩ := hfit (by rintro rfl; simp at hlt)
                            obtain ⟨r0, r1, r2, r3⟩ := hc j a ha
                            have s0 := below_cell hbw r0
                            have s1 := below_cell hbw r1
                            have s2 := below_cell hbw r2
                            have s3 := below_cell hbw r3
                            rw [hSj] at s3
                            obtain ⟨V, hV⟩ : ∃ V, vis k (d + 1) a = V := ⟨_, rfl⟩
                            rw [hV] at hsub hdr
                            have HLE := Lib.hid (fun m h => hle m (hV.trans h))
                            have HDR := Lib.hid hdr
                            have HSUB := Lib.hid hsub
                            obtain ⟨oa, na, nma, la⟩ := a
                            simp only [Ex.op, Ex.n, Ex.name, Ex.args] at s0 s1 s2 s3
                            clear r0 r1 r2 r3 hc ha hSj hsub hdr hle hV hbw
                            go_wp2_with fail
                            refine HSUB.out.mono ?_
                            rintro e w5 ⟨rfl, hb5⟩
                            have HB5 := Lib.hid (HB.out.trans (hb5.mono HB.out.size))
                            have q5 := below_cell hb5 q3
                            clear hb5 q3 s0 s1 s2 s3 HB
                            cases V with
                            | none =>
                              simp only [cntV]
                              go_wp2
                              go_ret
                              have h := HVJ.out
                              rw [HDR.out] at h
                              exact ⟨by rw [← h]; rfl, HB2.out.trans (HB5.out.mono HB2.out.size)⟩
                            | some m =>
                              have hm := HLE.out m rfl
                              simp only [cntV]
                              go_wp2
                              go_roundw
                              case rel => exact ⟨j + 1, m, by omega, by omega, rfl, by go_num, by have h := HVJ.out; rw [HDR.out] at h; exact h, HB5.out⟩
                              case measure => simp [intOf]; omega
                          · obtain rfl : j = l.length := by omega
                            go_wp2
                            go_ret
                            have h := HVJ.out
                            rw [List.drop_length, visL] at h
                            exact ⟨by rw [← h]; rfl, HB2.out.trans (HB.out.mono HB2.out.size)⟩
                      · have hx1 : (op != 1) = true := by simpa using e7
                        go_enter Tryz.func98, Tryz.ntmps98
                        go_wp2_with fail
                        rw [HW1.out]
                        refine wp_region_later (by kernel_rfl) (by kernel_rfl) ?_
                        repeat (go_big_quiet_step ((go_at_call 141; exact Calls.later_of ((arity_any _ _).mono fun _ _ ⟨he, hw⟩ => ⟨by rw [he, HAR.out], by rw [← hw]; exact Below.refl _ _⟩))))
                        refine wpQuiet_nil ?_
                        intro w2 hb2
                        have k0 := below_cell hb2 HC0.out
                        have k1 := below_cell hb2 HC1.out
                        have k2 := below_cell hb2 HC2.out
                        have k3 := below_cell hb2 HC3.out
                        have HB2 := Lib.hid (HB1.out.trans (hb2.mono HB1.out.size))
                        clear hb2
                        have HVL : Hid (vis left d (.mk op 0 nm l) = visL (left - 1) (d + 1) l) := Lib.hid (by rw [HV.out, if_neg (by rw [HQY.out]; simp; omega)]; rfl)
                        have hl1 : (left : Int) - 1 = ((left - 1 : Nat) : Int) := by omega
                        go_wp2_with fail
                        go_loopw [1, 7] (fun c i wr => ∃ j k : Nat, j ≤ l.length ∧ k ≤ 60 ∧ c = .int .i64 k ∧ i = .int .i64 j ∧ visL k (d + 1) (l.drop j) = vis left d (.mk op 0 nm l) ∧ Below w2.heap.size w2 wr) (fun _ i _ => l.length - (intOf i).toNat)
                        case atStart => exact ⟨0, left - 1, Nat.zero_le _, by omega, by rw [← hl1], rfl, HVL.out.symm, Below.refl _ _⟩
                        case round =>
                          obtain ⟨j, k, hj, hk, rfl, rfl, hvl, hB⟩ := hrel
                          have HVJ := Lib.hid hvl
                          have HB := Lib.hid hB
                          have q3 := below_cell hB k3
                          clear hvl hB k0 k1 k2 k3
                          by_cases hlt : j < l.length
                          · obtain ⟨a, ha⟩ : ∃ a, l[j]? = some a := ⟨_, List.getElem?_eq_getElem hlt⟩
                            have hbw : Below w.heap.size w wr := HBW.out.trans ((HB2.out.trans (HB.out.mono HB2.out.size)).mono HBW.out.size)
                            obtain ⟨pj, cj, Sj, hSj, -⟩ := (hargs j a ha).inv
                            have hsub := HIH.out j a ha a k (d + 1) wr rfl (hname j a ha) hk (by omega) hbw
                            rw [hSj] at hsub
                            have hdr : visL k (d + 1) (l.drop j) = match vis k (d + 1) a with | none => none | some m => visL m (d + 1) (l.drop (j + 1)) := by
                              obtain ⟨hj', rfl⟩ := List.getElem?_eq_some_iff.1 ha
                              rw [List.drop_eq_getElem_cons hj', visL]
                              all_goals (cases vis k (d + 1) l[j] <;> rfl)
                            have hle := fun m => vis_le k (d + 1) m a
                            obtain ⟨b, o, rfl, hc⟩ := hfit (by rintro rfl; simp at hlt)
                            obtain ⟨r0, r1, r2, r3⟩ := hc j a ha
                            have s0 := below_cell hbw r0
                            have s1 := below_cell hbw r1
                            have s2 := below_cell hbw r2
                            have s3 := below_cell hbw r3
                            rw [hSj] at s3
                            obtain ⟨V, hV⟩ : ∃ V, vis k (d + 1) a = V := ⟨_, rfl⟩
                            rw [hV] at hsub hdr
                            have HLE := Lib.hid (fun m h => hle m (hV.trans h))
                            have HDR := Lib.hid hdr
                            have HSUB := Lib.hid hsub
                            obtain ⟨oa, na, nma, la⟩ := a
                            simp only [Ex.op, Ex.n, Ex.name, Ex.args] at s0 s1 s2 s3
                            clear r0 r1 r2 r3 hc ha hSj hsub hdr hle hV hbw
                            go_wp2_with fail
                            refine HSUB.out.mono ?_
                            rintro e w5 ⟨rfl, hb5⟩
                            have HB5 := Lib.hid (HB.out.trans (hb5.mono HB.out.size))
                            have q5 := below_cell hb5 q3
                            clear hb5 q3 s0 s1 s2 s3 HB
                            cases V with
                            | none =>
                              simp only [cntV]
                              go_wp2
                              go_ret
                              have h := HVJ.out
                              rw [HDR.out] at h
                              exact ⟨by rw [← h]; rfl, HB2.out.trans (HB5.out.mono HB2.out.size)⟩
                            | some m =>
                              have hm := HLE.out m rfl
                              simp only [cntV]
                              go_wp2
                              go_roundw
                              case rel => exact ⟨j + 1, m, by omega, by omega, rfl, by go_num, by have h := HVJ.out; rw [HDR.out] at h; exact h, HB5.out⟩
                              case measure => simp [intOf]; omega
                          · obtain rfl : j = l.length := by omega
                            go_wp2
                            go_ret
                            have h := HVJ.out
                            rw [List.drop_length, visL] at h
                            exact ⟨by rw [← h]; rfl, HB2.out.trans (HB.out.mono HB2.out.size)⟩
                    · obtain rfl : op = 1 := by omega
                      have hx2 : (n != 0) = true := by simpa using e6
                      go_enter Tryz.func98, Tryz.ntmps98
                      go_wp2_with fail
                      rw [HW1.out]
                      refine wp_region_later (by kernel_rfl) (by kernel_rfl) ?_
                      repeat (go_big_quiet_step ((go_at_call 141; exact Calls.later_of ((arity_any _ _).mono fun _ _ ⟨he, hw⟩ => ⟨by rw [he, HAR.out], by rw [← hw]; exact Below.refl _ _⟩))))
                      refine wpQuiet_nil ?_
                      intro w2 hb2
                      have k0 := below_cell hb2 HC0.out
                      have k1 := below_cell hb2 HC1.out
                      have k2 := below_cell hb2 HC2.out
                      have k3 := below_cell hb2 HC3.out
                      have HB2 := Lib.hid (HB1.out.trans (hb2.mono HB1.out.size))
                      clear hb2
                      have HVL : Hid (vis left d (.mk 1 n nm l) = visL (left - 1) (d + 1) l) := Lib.hid (by rw [HV.out, if_neg (by rw [HQY.out]; simp; omega)]; rfl)
                      have hl1 : (left : Int) - 1 = ((left - 1 : Nat) : Int) := by omega
                      go_wp2_with fail
                      go_loopw [1, 7] (fun c i wr => ∃ j k : Nat, j ≤ l.length ∧ k ≤ 60 ∧ c = .int .i64 k ∧ i = .int .i64 j ∧ visL k (d + 1) (l.drop j) = vis left d (.mk 1 n nm l) ∧ Below w2.heap.size w2 wr) (fun _ i _ => l.length - (intOf i).toNat)
                      case atStart => exact ⟨0, left - 1, Nat.zero_le _, by omega, by rw [← hl1], rfl, HVL.out.symm, Below.refl _ _⟩
                      case round =>
                        obtain ⟨j, k, hj, hk, rfl, rfl, hvl, hB⟩ := hrel
                        have HVJ := Lib.hid hvl
                        have HB := Lib.hid hB
                        have q3 := below_cell hB k3
                        clear hvl hB k0 k1 k2 k3
                        by_cases hlt : j < l.length
                        · obtain ⟨a, ha⟩ : ∃ a, l[j]? = some a := ⟨_, List.getElem?_eq_getElem hlt⟩
                          have hbw : Below w.heap.size w wr := HBW.out.trans ((HB2.out.trans (HB.out.mono HB2.out.size)).mono HBW.out.size)
                          obtain ⟨pj, cj, Sj, hSj, -⟩ := (hargs j a ha).inv
                          have hsub := HIH.out j a ha a k (d + 1) wr rfl (hname j a ha) hk (by omega) hbw
                          rw [hSj] at hsub
                          have hdr : visL k (d + 1) (l.drop j) = match vis k (d + 1) a with | none => none | some m => visL m (d + 1) (l.drop (j + 1)) := by
                            obtain ⟨hj', rfl⟩ := List.getElem?_eq_some_iff.1 ha
                            rw [List.drop_eq_getElem_cons hj', visL]
                            all_goals (cases vis k (d + 1) l[j] <;> rfl)
                          have hle := fun m => vis_le k (d + 1) m a
                          obtain ⟨b, o, rfl, hc⟩ := hfit (by rintro rfl; simp at hlt)
                          obtain ⟨r0, r1, r2, r3⟩ := hc j a ha
                          have s0 := below_cell hbw r0
                          have s1 := below_cell hbw r1
                          have s2 := below_cell hbw r2
                          have s3 := below_cell hbw r3
                          rw [hSj] at s3
                          obtain ⟨V, hV⟩ : ∃ V, vis k (d + 1) a = V := ⟨_, rfl⟩
                          rw [hV] at hsub hdr
                          have HLE := Lib.hid (fun m h => hle m (hV.trans h))
                          have HDR := Lib.hid hdr
                          have HSUB := Lib.hid hsub
                          obtain ⟨oa, na, nma, la⟩ := a
                          simp only [Ex.op, Ex.n, Ex.name, Ex.args] at s0 s1 s2 s3
                          clear r0 r1 r2 r3 hc ha hSj hsub hdr hle hV hbw
                          go_wp2_with fail
                          refine HSUB.out.mono ?_
                          rintro e w5 ⟨rfl, hb5⟩
                          have HB5 := Lib.hid (HB.out.trans (hb5.mono HB.out.size))
                          have q5 := below_cell hb5 q3
                          clear hb5 q3 s0 s1 s2 s3 HB
                          cases V with
                          | none =>
                            simp only [cntV]
                            go_wp2
                            go_ret
                            have h := HVJ.out
                            rw [HDR.out] at h
                            exact ⟨by rw [← h]; rfl, HB2.out.trans (HB5.out.mono HB2.out.size)⟩
                          | some m =>
                            have hm := HLE.out m rfl
                            simp only [cntV]
                            go_wp2
                            go_roundw
                            case rel => exact ⟨j + 1, m, by omega, by omega, rfl, by go_num, by have h := HVJ.out; rw [HDR.out] at h; exact h, HB5.out⟩
                            case measure => simp [intOf]; omega
                        · obtain rfl : j = l.length := by omega
                          go_wp2
                          go_ret
                          have h := HVJ.out
                          rw [List.drop_length, visL] at h
                          exact ⟨by rw [← h]; rfl, HB2.out.trans (HB.out.mono HB2.out.size)⟩
              · have HA := Lib.hid (HNO.out (by omega))
                have hx1 : (op != 1) = true := by simp; omega
                have hx2 : (n != 0) = true := by simp; omega
                go_enter Tryz.func98, Tryz.ntmps98
                go_wp2_with fail
                rw [HW1.out]
                refine wp_region_later (by kernel_rfl) (by kernel_rfl) ?_
                repeat (go_big_quiet_step ((go_at_call 141; exact Calls.later_of ((arity_any _ _).mono fun _ _ ⟨he, hw⟩ => ⟨by rw [he, HAR.out], by rw [← hw]; exact Below.refl _ _⟩))))
                refine wpQuiet_nil ?_
                intro w2 hb2
                have k0 := below_cell hb2 HC0.out
                have k1 := below_cell hb2 HC1.out
                have k2 := below_cell hb2 HC2.out
                have k3 := below_cell hb2 HC3.out
                have HB2 := Lib.hid (HB1.out.trans (hb2.mono HB1.out.size))
                clear hb2
                go_wp2
                go_ret
                exact ⟨by rw [HA.out]; rfl, HB2.out⟩
            · have hnm := toList_of_size_pos (show 0 < nm.size by omega)
              have HA := Lib.hid (HNO.out (by omega))
              go_enter Tryz.func98, Tryz.ntmps98
              go_wp2_with fail
              rw [HW1.out]
              refine wp_region_later (by kernel_rfl) (by kernel_rfl) ?_
              repeat (go_big_quiet_step ((go_at_call 141; exact Calls.later_of ((arity_any _ _).mono fun _ _ ⟨he, hw⟩ => ⟨by rw [he, HAR.out], by rw [← hw]; exact Below.refl _ _⟩))))
              refine wpQuiet_nil ?_
              intro w2 hb2
              have k0 := below_cell hb2 HC0.out
              have k1 := below_cell hb2 HC1.out
              have k2 := below_cell hb2 HC2.out
              have k3 := below_cell hb2 HC3.out
              have HB2 := Lib.hid (HB1.out.trans (hb2.mono HB1.out.size))
              clear hb2
              go_wp2
              go_ret
              exact ⟨by rw [HA.out]; rfl, HB2.out⟩
        · have HA : Hid (cntV (vis left d (.mk op n nm l)) = -1) := Lib.hid (by rw [HV.out, if_pos (.inr (.inr (HP3.out g3)))]; rfl)
          have hd3 : (A != (l.length : Int)) = true := by simpa using g3
          go_enter Tryz.func98, Tryz.ntmps98
          go_wp2_with fail
          rw [HW1.out]
          refine wp_region_later (by kernel_rfl) (by kernel_rfl) ?_
          repeat (go_big_quiet_step ((go_at_call 141; exact Calls.later_of ((arity_any _ _).mono fun _ _ ⟨he, hw⟩ => ⟨by rw [he, HAR.out], by rw [← hw]; exact Below.refl _ _⟩))))
          refine wpQuiet_nil ?_
          intro w2 hb2
          go_wp2
          go_ret
          exact ⟨by rw [HA.out]; rfl, HB1.out.trans (hb2.mono HB1.out.size)⟩
end Go.Proofs.YtiledamgmppcmaaGreatDoor
/-! ExG -/
namespace Go.Proofs.YtiledamgmppcmaaGreatDoor
open Go.RowKit

theorem rightX_any (v : Value) (x : Ex) (w : World) (h : ExAt w v x) :
    Calls Tryz.prog 51 #[v] w fun e w' => e = .returned (.bool (validX x)) ∧ Below w.heap.size w w' := by
  obtain ⟨s, rfl, hn, ha⟩ := h
  have hc := fun W hb => count_args ha x 60 1 W rfl hn (Nat.le_refl _) (by omega) hb
  obtain ⟨p, cap, S, rfl, hcap, hmax, -⟩ := ha.inv
  have HC := Lib.hid hc
  have HV : Hid (validX x = (vis 60 1 x).isSome) := Lib.hid rfl
  obtain ⟨V, hV⟩ : ∃ V, vis 60 1 x = V := ⟨_, rfl⟩
  rw [hV] at HC HV
  obtain ⟨op, n, nm, l⟩ := x
  simp only [Ex.val, Ex.op, Ex.n, Ex.name, Ex.args] at HC ⊢
  clear ha hc hV
  go_enter Tryz.func51, Tryz.ntmps51
  go_wp2_with fail
  refine (HC.out _ ((Below.refl _ _).alloc (Nat.le_refl _) _)).mono ?_
  rintro e w1 ⟨rfl, hb1⟩
  have HB := Lib.hid (alloc_trans hb1)
  clear hb1 HC
  cases V with
  | none =>
    simp only [cntV]
    go_wp2
    go_ret
    exact ⟨by rw [HV.out]; rfl, HB.out⟩
  | some k =>
    simp only [cntV]
    have hk : decide ((0 : Int) ≤ (k : Int)) = true := by simp
    go_wp2
    go_ret
    exact ⟨by rw [HV.out]; rfl, HB.out⟩
end Go.Proofs.YtiledamgmppcmaaGreatDoor
