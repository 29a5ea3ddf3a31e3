/- The iterator of the program: what a call of the function that tokens hands back does, whatever the loop's body is. -/
import Derived.Test.YtigppjgmfonodaaLexI
import Derived.Test.YtigppjgmfonodaaLexP
import Derived.RangeFuncBox
import Derived.RangeFuncLeaves
import Derived.RangeFuncCalls
import Derived.OwnWalkIn
import Derived.TacticsInMore
import Derived.LoopNIn
import Derived.LoopIn
namespace Go.Proofs.Ytigppjgmfonodaa
open Go.RowKit

attribute [local go_sem] Oper.semAt_some

def KeepsRd (W W' : World) : Prop := ∀ (b : Nat) (s : ByteArray) (k : Int), RdAt W b s k → RdAt W' b s k

def SeqPost (s : ByteArray) (J : List Tok → World → Prop) (Jx : Nat → World → Prop) (e : Ending) (W' : World) : Prop :=
  ((scanG s.data.toList.length (s.data.toList.length + 1) s.data.toList []).2.2 = 0 ∧ e = .returned (.tuple #[]) ∧ J (scanG s.data.toList.length (s.data.toList.length + 1) s.data.toList []).1 W') ∨
  ((scanG s.data.toList.length (s.data.toList.length + 1) s.data.toList []).2.2 = 3 ∧ (scanG s.data.toList.length (s.data.toList.length + 1) s.data.toList []).1 = [] ∧ e = .returned (.tuple #[]) ∧ Jx (scanG s.data.toList.length (s.data.toList.length + 1) s.data.toList []).2.1 W') ∨
  ((scanG s.data.toList.length (s.data.toList.length + 1) s.data.toList []).2.2 = 340 ∧ (scanG s.data.toList.length (s.data.toList.length + 1) s.data.toList []).1 = [] ∧
    e = .panicked [{ v := .iface 64 (.agg #[.int .i64 ((scanG s.data.toList.length (s.data.toList.length + 1) s.data.toList []).2.1 : Int)]), recovered := false }] ∧ ∃ acc, J acc W')

/-- The loop's relation: the reader stands at k, behind space; what is left of the text gives the same end. -/
def SeqRel (s : ByteArray) (J : List Tok → World → Prop) (B : Nat) (wr : World) : Prop :=
  ∃ (k f : Nat) (acc : List Tok), k ≤ s.size ∧ RdAt wr B s k ∧ J acc wr ∧ skipF false (s.data.toList.drop k) = s.data.toList.drop k ∧ s.size - k < f ∧
    scanG s.data.toList.length f (s.data.toList.drop k) acc = scanG s.data.toList.length (s.data.toList.length + 1) s.data.toList []

set_option maxRecDepth 100000 in
set_option maxHeartbeats 4000000 in
theorem tokens1_any (n l TB : Nat) (s : ByteArray) (J : List Tok → World → Prop) (Jx : Nat → World → Prop) (W0 : World) (hs : s.size ≤ 20000) (hT : W0.cell? ⟨TB, 0, none⟩ = some (.string s))
    (hJb : ∀ acc W W', J acc W → Below W.heap.size W W' → J acc W')
    (hJr : ∀ acc W W' b k, W0.heap.size ≤ b → J acc W → RdAt W b s k → W.grownBy W' (some b) → J acc W')
    (hY : ∀ acc t W, J acc W → YieldAt Fence.wide n Try.prog l #[t.val] W fun e W' => (acc.length ≠ 2000 ∧ e = .returned (.bool true) ∧ J (acc ++ [t]) W' ∧ KeepsRd W W') ∨ (acc.length = 2000 ∧ e = .returned (.bool false) ∧ Jx t.pos W'))
    (h0 : J [] W0) :
    CallsIn Fence.wide (n + 1) Try.prog 53 #[.func (.yield l) #[] #[], .pointer (some ⟨TB, 0, none⟩)] W0 (SeqPost s J Jx) := by
  refine callsIn_of_wp Try.func53 rfl trivial ?_ rfl
  simp only [Try.ntmps53, List.size_toArray, List.length_cons, List.length_nil, Nat.reduceAdd, Nat.reduceSub, Array.replicate_succ, Array.replicate_zero, List.push_toArray, List.append_toArray, List.nil_append, List.cons_append]
  gi_wp2
  refine wpIn_wide.2 ?_
  go_region_held3 (fun w' => w'.cell? ⟨TB, 0, none⟩ = some (.string s)) (go_keep) (first | (go_at_call 54; refine (kinds_any _).mono ?_; rintro e w' ⟨rfl, rfl⟩; unfold kindCells))
  gi_wp2_with fail
  have hb1 : Below W0.heap.size W0 ((W0.alloc (.cells kindCells 94)).alloc (.cells (rdCells s 0) 97)).drew := (((Below.refl _ _).alloc (Nat.le_refl _) _).alloc (by simp) _).drew
  have hR1 : RdAt ((W0.alloc (.cells kindCells 94)).alloc (.cells (rdCells s 0) 97)).drew (W0.heap.size + 1) s 0 := by
    have := heap_alloc_new (W0.alloc (.cells kindCells 94)) (.cells (rdCells s 0) 97)
    rw [World.size_alloc] at this
    exact this
  have HJ1 : Hid (J [] _) := Lib.hid (hJb _ _ _ h0 hb1)
  have HR1 := Lib.hid hR1
  have HJb := Lib.hid hJb
  have HJr := Lib.hid hJr
  have HY := Lib.hid hY
  clear hR1 hb1 hJb hJr hY h0 hT
  refine ⟨trivial, (callsIn_wide.2 (skip_any (W0.heap.size + 1) s 0 _ (by omega) (by omega) HR1.out)).mono ?_⟩
  rintro e w2 ⟨rfl, hR2, hg2⟩
  have HR2 := Lib.hid hR2
  have HJ2 : Hid (J [] w2) := Lib.hid (HJr.out _ _ _ _ _ (Nat.le_succ _) HJ1.out HR1.out hg2)
  clear hR2 hg2 HR1 HJ1
  obtain ⟨B, hB⟩ : ∃ B, W0.heap.size + 1 = B := ⟨_, rfl⟩
  rw [hB] at HR2
  have hBle : W0.heap.size ≤ B := by omega
  have hstart : SeqRel s J B w2 := ⟨skipN s.data.toList 0, s.data.toList.length + 1, [], by have := skipN_ge s.data.toList 0 (by omega); simpa using this.2, HR2.out, HJ2.out, by rw [skipN_drop, skipF_skip], by simp; omega, by rw [skipN_drop, scanG_skip]; simp⟩
  have HS := Lib.hid hstart
  clear hstart HR2 HJ2
  gi_wp2
  gi_loopw [11] (fun _ wr => SeqRel s J B wr) (fun _ wr => s.size - posOf wr B)
  case atStart => exact HS.out
  case round =>
    clear HS
    obtain ⟨k, f, acc, hk, hR, hJ, hsk, hf, hsc⟩ := hrel
    have HP := Lib.hid (posOf_eq hR)
    have HR := Lib.hid hR
    have HJ := Lib.hid hJ
    have HSK := Lib.hid hsk
    have HSC := Lib.hid hsc
    have c0 : ∀ x : Later wr, x.world.cell? ⟨B, 0, none⟩ = some (.string s) := later_cell hR.cells.1
    have c1 : ∀ x : Later wr, x.world.cell? ⟨B, 1, none⟩ = some (.int .i64 (k : Int)) := later_cell hR.cells.2.1
    clear hR hJ hsk hsc
    by_cases hlt : k < s.size
    · gi_wp2_with fail
      refine wpIn_wide.2 ?_
      refine wp_region_later (by kernel_rfl) (by kernel_rfl) ?_
      repeat (go_big_quiet_step (fail))
      refine wpQuiet_nil ?_
      intro w3 hb3
      have HR3 := Lib.hid (HR.out.below hb3)
      have HJ3 := Lib.hid (HJb.out _ _ _ HJ.out hb3)
      clear c0 c1 hb3 HR HJ
      gi_wp2_with fail
      have hlk : k < s.data.toList.length := by simpa using hlt
      have hne : s.data.toList.drop k ≠ [] := by rw [drop_cons hlk]; simp
      have hlen : s.data.toList.length = s.size := by simp
      have hpos : s.data.toList.length - (s.data.toList.drop k).length = k := by simp; omega
      have HNE := Lib.hid hne
      have HPOS := Lib.hid hpos
      have HLEN := Lib.hid hlen
      clear hne hpos hlen hB
      refine ⟨trivial, (callsIn_wide.2 (next_any B s k w3 (by omega) hlt HR3.out)).mono ?_⟩
      rintro e w4 (⟨hr, tx, htx, rfl, hR4, hg4⟩ | ⟨hr, rfl, hg4⟩)
      · have HJ4 := Lib.hid (HJr.out _ _ _ _ _ hBle HJ3.out HR3.out hg4)
        have HR4 := Lib.hid hR4
        have HRI := Lib.hid hr
        have HTX := Lib.hid (eq_bytesOf htx)
        clear hr htx hR4 hg4 HR3 HJ3
        obtain ⟨kd, hkd⟩ : ∃ x, (oneT (s.data.toList.drop k)).1 = x := ⟨_, rfl⟩
        obtain ⟨tl, htl⟩ : ∃ x, (oneT (s.data.toList.drop k)).2 = x := ⟨_, rfl⟩
        rw [htl] at HTX HR4 HRI
        rw [hkd] at HRI ⊢
        have HKD := Lib.hid hkd
        have HTL := Lib.hid htl
        clear hkd htl
        obtain rfl := HTX.out
        clear HTX
        have hy0 := HY.out acc ⟨kd, tl, k⟩ w4 HJ4.out
        unfold Tok.val at hy0
        obtain ⟨fn, tmps, assign, body, hy, hRd⟩ := hy0
        have HRD := Lib.hid hRd
        clear hRd
        gi_wp2_with fail
        refine HRD.out.mono ?_
        rintro e w5 (⟨ha, rfl, hJ5, hk5⟩ | ⟨ha, rfl, hJx⟩)
        · have hR5 := hk5 _ _ _ HR4.out
          have hne2 := rightB_ne HRI.out
          have hl2 : 1 ≤ tl.length := by cases tl with | nil => exact absurd rfl hne2 | cons => simp
          have hle : k + tl.length ≤ s.size := by
            have h1 := one_size (s := s) (k := k) (tx := bytesOf tl) (by rw [list_bytesOf, HTL.out])
            have h2 : (bytesOf tl).size = tl.length := by simp [bytesOf, ByteArray.size]
            omega
          have HR5 := Lib.hid hR5
          have HJ5 := Lib.hid hJ5
          have HA := Lib.hid ha
          clear hR5 hne2 hk5 hJ5 ha hy HJ4 HR4 HRD
          gi_wp2_with fail
          refine ⟨trivial, (callsIn_wide.2 (skip_any B s (k + tl.length) w5 (by omega) hle HR5.out)).mono ?_⟩
          rintro e w6 ⟨rfl, hR6, hg6⟩
          have HR6 := Lib.hid hR6
          have HJ6 := Lib.hid (HJr.out _ _ _ _ _ hBle HJ5.out HR5.out hg6)
          have hsn := skipN_ge s.data.toList (k + tl.length) (by simpa using hle)
          clear hR6 hg6 HR5 HJ5
          gi_wp2
          go_roundw
          case rel =>
            refine ⟨skipN s.data.toList (k + tl.length), f - 1, acc ++ [⟨kd, tl, k⟩], by simpa using hsn.2, HR6.out, HJ6.out, by rw [skipN_drop, skipF_skip], ?_, ?_⟩
            · have := hsn.1; omega
            · rw [← HSC.out]
              obtain ⟨f', rfl⟩ : ∃ f', f = f' + 1 := ⟨f - 1, by omega⟩
              obtain ⟨f'', rfl⟩ : ∃ f'', f' = f'' + 1 := ⟨f' - 1, by omega⟩
              rw [scanG_next HSK.out HNE.out (by rw [HKD.out, HTL.out]; exact HRI.out) HA.out, HKD.out, HTL.out, HPOS.out, List.drop_drop, skipN_drop]
              exact scanG_skip _ _ _ _
          case measure =>
            rw [posOf_eq HR6.out, HP.out]
            have := hsn.1; have := hsn.2; have := HLEN.out; omega
        · have HA := Lib.hid ha
          have HJx := Lib.hid hJx
          clear ha hJx hy HJ4 HR4 HRD
          gi_wp2
          go_end0
          refine .inr (.inl ?_)
          rw [← HSC.out]
          obtain ⟨f', rfl⟩ : ∃ f', f = f' + 1 := ⟨f - 1, by omega⟩
          rw [scanG_full HSK.out HNE.out (by rw [HKD.out, HTL.out]; exact HRI.out) HA.out, HPOS.out]
          exact ⟨rfl, rfl, rfl, HJx.out⟩
      · have HJ4 := Lib.hid (HJr.out _ _ _ _ _ hBle HJ3.out HR3.out hg4)
        have HRI := Lib.hid hr
        clear hr hg4 HJ3 HR3
        gi_wp2
        refine ⟨rfl, .inr (.inr ?_)⟩
        rw [← HSC.out]
        obtain ⟨f', rfl⟩ : ∃ f', f = f' + 1 := ⟨f - 1, by omega⟩
        rw [scanG_bad HSK.out HNE.out HRI.out, HPOS.out]
        exact ⟨rfl, rfl, rfl, acc, HJ4.out⟩
    · obtain rfl : k = s.size := by omega
      gi_wp2_with fail
      refine wpIn_wide.2 ?_
      refine wp_region_later (by kernel_rfl) (by kernel_rfl) ?_
      repeat (go_big_quiet_step (fail))
      refine wpQuiet_nil ?_
      intro w3 hb3
      have HJ3 := Lib.hid (HJb.out _ _ _ HJ.out hb3)
      clear c0 c1 hb3 HR HJ
      gi_wp2
      go_end0
      refine .inl ?_
      rw [← HSC.out]
      obtain ⟨f', rfl⟩ : ∃ f', f = f' + 1 := ⟨f - 1, by omega⟩
      rw [show s.data.toList.drop s.size = [] from List.drop_eq_nil_of_le (by simp), scanG_end]
      exact ⟨rfl, rfl, HJ3.out⟩
end Go.Proofs.Ytigppjgmfonodaa
