/- skip of the reference: what a call computes. -/
import Derived.Test.YtigppjgmfonodaaLexH
import Derived.Test.YtigppjgmfonodaaLexP
import Derived.Deep.LoopGhost
namespace Go.Proofs.Ytigppjgmfonodaa
open Go.RowKit

theorem byte_bne {a b : UInt8} (h : a ≠ b) : ((a.toNat : Int) != (b.toNat : Int)) = true := by rw [bne, byte_ne h]; rfl
theorem skipT_step {l : List UInt8} {k : Nat} (h : k < l.length) (hc : l[k] ≠ 10) : skipF true (l.drop k) = skipF true (l.drop (k + 1)) := by
  rw [drop_cons h]; simp [skipF, hc]
theorem skipT_start {l : List UInt8} {k : Nat} (h : k < l.length) (hc : l[k] = 35) : skipF true (l.drop k) = skipF false (l.drop k) := by
  rw [skip_comment h hc]; exact skipT_step h (by rw [hc]; decide)
theorem skipT_nl {l : List UInt8} {k : Nat} (h : k < l.length) (hc : l[k] = 10) : skipF false (l.drop k) = skipF true (l.drop k) := by
  rw [drop_cons h]; simp [skipF, hc]
theorem skipT_end {l : List UInt8} {k : Nat} (h : l.length ≤ k) : skipF false (l.drop k) = skipF true (l.drop k) := by
  rw [List.drop_eq_nil_of_le h]; rfl

set_option maxRecDepth 100000 in
set_option maxHeartbeats 4000000 in
theorem rskip_any (s : ByteArray) (k : Nat) (w : World) (hs : s.size ≤ 1000000) (hk : k ≤ s.size) :
    Calls Try.prog 37 #[.string s, .int .i64 k] w fun e w' => e = .returned (.int .i64 (skipN s.data.toList k)) ∧ w = w' := by
  go_enter Try.func37, Try.ntmps37
  go_wp2
  go_loop [1] (fun i => ∃ k' : Nat, k ≤ k' ∧ k' ≤ s.size ∧ i = .int .i64 k' ∧ skipF false (s.data.toList.drop k') = skipF false (s.data.toList.drop k)) (fun i => s.size - (intOf i).toNat)
  case atStart => exact ⟨k, Nat.le_refl _, hk, rfl, rfl⟩
  case round =>
    obtain ⟨k', hk1, hk2, rfl, hsk⟩ := hrel
    have HK := Lib.hid hsk
    clear hsk
    by_cases hlt : k' < s.size
    · have hl : k' < s.data.toList.length := by simpa using hlt
      by_cases h32 : s[k'] = 32
      · have f1 : ((s[k'].toNat : Int) == 32) = true := by rw [h32]; rfl
        have f2 : ((s[k'].toNat : Int) != 35) = true := by rw [h32]; rfl
        have HN : Hid (skipF false (s.data.toList.drop (k' + 1)) = skipF false (s.data.toList.drop k)) := Lib.hid ((skip_blank hl (.inl h32)).symm.trans HK.out)
        clear h32
        go_wp2
        go_round
        case rel => exact ⟨k' + 1, by omega, by omega, by go_num, HN.out⟩
        case measure => simp [intOf]; omega
      · have f1 : ((s[k'].toNat : Int) == 32) = false := byte_ne h32
        by_cases h10 : s[k'] = 10
        · have f2 : ((s[k'].toNat : Int) == 10) = true := by rw [h10]; rfl
          have f3 : ((s[k'].toNat : Int) != 35) = true := by rw [h10]; rfl
          have HN : Hid (skipF false (s.data.toList.drop (k' + 1)) = skipF false (s.data.toList.drop k)) := Lib.hid ((skip_blank hl (.inr h10)).symm.trans HK.out)
          clear h32 h10
          go_wp2
          go_round
          case rel => exact ⟨k' + 1, by omega, by omega, by go_num, HN.out⟩
          case measure => simp [intOf]; omega
        · have f2 : ((s[k'].toNat : Int) == 10) = false := byte_ne h10
          by_cases h35 : s[k'] = 35
          · have f3 : ((s[k'].toNat : Int) == 35) = true := by rw [h35]; rfl
            have f4 : ((s[k'].toNat : Int) != 35) = false := by rw [h35]; rfl
            have HC := Lib.hid h35
            clear h32 h10 h35
            go_wp2
            go_loop [1] (fun i => ∃ e : Nat, k' ≤ e ∧ e ≤ s.size ∧ i = .int .i64 e ∧ skipF true (s.data.toList.drop e) = skipF false (s.data.toList.drop k)) (fun i => s.size - (intOf i).toNat)
            case atStart => exact ⟨k', Nat.le_refl _, by omega, rfl, (skipT_start hl HC.out).trans HK.out⟩
            case round =>
              obtain ⟨e, he1, he2, rfl, hE⟩ := hrel
              have HE := Lib.hid hE
              clear hE
              by_cases hle : e < s.size
              · have hle' : e < s.data.toList.length := by simpa using hle
                by_cases hn : s[e] = 10
                · have g1 : ((s[e].toNat : Int) != 10) = false := by rw [hn]; rfl
                  have hgt : k' < e := by
                    rcases Nat.lt_or_ge k' e with h | h
                    · exact h
                    · obtain rfl : e = k' := by omega
                      have h2 := HC.out
                      rw [hn] at h2
                      exact absurd h2 (by decide)
                  have HN : Hid (skipF false (s.data.toList.drop e) = skipF false (s.data.toList.drop k)) := Lib.hid ((skipT_nl hle' hn).trans HE.out)
                  clear hn
                  go_wp2
                  go_round
                  case rel => exact ⟨e, by omega, by omega, rfl, HN.out⟩
                  case measure => simp [intOf]; omega
                · have g1 : ((s[e].toNat : Int) != 10) = true := byte_bne hn
                  have HN : Hid (skipF true (s.data.toList.drop (e + 1)) = skipF false (s.data.toList.drop k)) := Lib.hid ((skipT_step hle' hn).symm.trans HE.out)
                  clear hn
                  go_wp2
                  go_round
                  case rel => exact ⟨e + 1, by omega, by omega, by go_num, HN.out⟩
                  case measure => simp [intOf]; omega
              · have HN : Hid (skipF false (s.data.toList.drop e) = skipF false (s.data.toList.drop k)) := Lib.hid ((skipT_end (by simp; omega)).trans HE.out)
                go_wp2
                go_round
                case rel => exact ⟨e, by omega, by omega, rfl, HN.out⟩
                case measure => simp [intOf]; omega
          · have f3 : ((s[k'].toNat : Int) == 35) = false := byte_ne h35
            have HN : Hid (skipN s.data.toList k = k') := Lib.hid (skipN_of HK.out (skip_other hl h32 h10 h35) (by omega))
            clear h32 h10 h35
            go_wp2
            go_ret
            exact ⟨ret_int (by rw [HN.out]), rfl⟩
    · have HN : Hid (skipN s.data.toList k = k') := Lib.hid (skipN_of HK.out (skip_end (by simp; omega)) (by simp; omega))
      go_wp2
      go_ret
      exact ⟨ret_int (by rw [HN.out]), rfl⟩
end Go.Proofs.Ytigppjgmfonodaa
