/- digits and Token of the reference's drafts: what a call gives. -/
import Derived.Test.YtigppjgmfonodaaOpen
import Derived.Test.YtigppjgmfonodaaLexZ
import Derived.Deep.CutBlock
namespace Go.Proofs.Ytigppjgmfonodaa
open Go.RowKit

def digL (n : Nat) : List UInt8 := if h : n < 10 then [UInt8.ofNat (48 + n)] else digL (n / 10) ++ [UInt8.ofNat (48 + n % 10)]
termination_by n

theorem digL_small {n : Nat} (h : n < 10) : digL n = [UInt8.ofNat (48 + n)] := by rw [digL, dif_pos h]
theorem digL_big {n : Nat} (h : ¬ n < 10) : digL n = digL (n / 10) ++ [UInt8.ofNat (48 + n % 10)] := by rw [digL, dif_neg h]
theorem digL_len (n : Nat) : 1 ≤ (digL n).length ∧ (digL n).length ≤ n + 1 := by
  induction n using Nat.strongRecOn with
  | _ n ih =>
    by_cases h : n < 10
    · rw [digL_small h]; simp
    · rw [digL_big h]
      have := ih (n / 10) (by omega)
      simp; omega

theorem dig_ext (n : Nat) (h : n < 10) : (⟨#[48, 49, 50, 51, 52, 53, 54, 55, 56, 57]⟩ : ByteArray).extract n (n + 1) = bytesOf [UInt8.ofNat (48 + n)] := by
  have key : ∀ n, n < 10 → (⟨#[48, 49, 50, 51, 52, 53, 54, 55, 56, 57]⟩ : ByteArray).extract n (n + 1) = bytesOf [UInt8.ofNat (48 + n)] := by decide +kernel
  exact key n h

set_option maxHeartbeats 1000000 in
theorem digits_any (n : Nat) (hn : n ≤ 1000000) (w : World) :
    Calls Try.prog 31 #[.int .i64 n] w fun e w' => e = .returned (.string (bytesOf (digL n))) ∧ Below w.heap.size w w' := by
  induction n using Nat.strongRecOn generalizing w with
  | _ n ih =>
    by_cases h : n < 10
    · have HE := Lib.hid (dig_ext n h)
      have HD := Lib.hid (digL_small h)
      have k1 : (0 : Int) ≤ n := by omega
      have k2 : (n : Int) + 1 ≤ 10 := by omega
      have k3 : ((n : Int) + 1).toNat = n + 1 := by omega
      clear ih
      go_enter Try.func31, Try.ntmps31
      go_wp2
      go_ret
      exact ⟨by rw [HD.out, ← HE.out]; rfl, Below.refl _ _⟩
    · obtain ⟨X, hX⟩ : ∃ X, bytesOf (digL (n / 10)) = X := ⟨_, rfl⟩
      have hc : ∀ w, Calls Try.prog 31 #[.int .i64 ((n : Int) / 10)] w fun e w' => e = .returned (.string X) ∧ Below w.heap.size w w' := by
        intro w
        have := ih (n / 10) (by omega) (by omega) w
        rw [hX] at this
        rw [show (n : Int) / 10 = ((n / 10 : Nat) : Int) from by omega]
        exact this
      have HC := Lib.hid hc
      have hd10 : n % 10 < 10 := by omega
      have hext := dig_ext (n % 10) hd10
      obtain ⟨D, hD⟩ : ∃ D, bytesOf [UInt8.ofNat (48 + n % 10)] = D := ⟨_, rfl⟩
      have HF : Hid (bytesOf (digL n) = X ++ D) := Lib.hid (by rw [digL_big h, ← hX, ← hD]; unfold bytesOf; apply ByteArray.ext; simp)
      have hxs : X.size ≤ 1000001 := by rw [← hX]; have := (digL_len (n / 10)).2; simp [bytesOf, ByteArray.size]; omega
      have hds : D.size = 1 := by rw [← hD]; rfl
      have HDS := Lib.hid hds
      rw [hD] at hext
      have hlt : ¬ n < 10 := h
      have hdec : decide ((n : Int) < 10) = false := by simp; omega
      have k0 : (0 : Int) ≤ n := by omega
      have k1 : (0 : Int) ≤ (n : Int) % 10 := by omega
      have k2 : (n : Int) % 10 + 1 ≤ 10 := by omega
      have k3 : ((n : Int) % 10).toNat = n % 10 := by omega
      have k4 : ((n : Int) % 10 + 1).toNat = n % 10 + 1 := by omega
      have k5 : IntKind.i64.wrap ((n : Int) % 10 + 1) = (n : Int) % 10 + 1 := IntWalk.i64_in _ (by omega)
      have k6 : (X.size : Int) + D.size ≤ 9223372036854775807 := by omega
      clear ih hc hX hD hd10 h hds
      go_enter Try.func31, Try.ntmps31
      go_wp2_with fail
      refine wp_region_later (by kernel_rfl) (by kernel_rfl) ?_
      repeat (go_big_quiet_step ((go_at_call 31; exact Calls.later_of (HC.out _))))
      refine wpQuiet_nil ?_
      intro w1 hb1
      clear k5
      go_wp2
      go_ret
      exact ⟨by rw [HF.out]; rfl, hb1⟩

abbrev u8v (b : UInt8) : Value := .int .u8 (b.toNat : Int)
def setC : List UInt8 := [97, 98, 99, 120, 121, 122, 95, 48, 49, 57]
def letC (c : UInt8) : UInt8 := setC.getD (c.toNat % 10) 0
/-- The token of a draft. -/
def draftX (k wh : UInt8) (ls : List UInt8) (n : Nat) : List UInt8 :=
  if k.toNat % 4 = 1 then wordBytes.getD (wh.toNat % 23) [] else if k.toNat % 4 = 3 then signBytes.getD (wh.toNat % 21) [] else if k.toNat % 4 = 2 then digL (n % 10000) else 120 :: (ls.take 11).map letC
def draftT (k wh : UInt8) (ls : List UInt8) (n : Nat) : ZTok := ⟨1 + (k.toNat % 4 : Nat), draftX k wh ls n, wh.toNat⟩

theorem let_ext (c : UInt8) : (⟨#[97, 98, 99, 120, 121, 122, 95, 48, 49, 57]⟩ : ByteArray).extract (c.toNat % 10) (c.toNat % 10 + 1) = bytesOf [letC c] := by
  have key : ∀ m, m < 10 → (⟨#[97, 98, 99, 120, 121, 122, 95, 48, 49, 57]⟩ : ByteArray).extract m (m + 1) = bytesOf [setC.getD m 0] := by decide +kernel
  exact key _ (by omega)

set_option maxRecDepth 100000 in
set_option maxHeartbeats 4000000 in
theorem token_digits (k wh : UInt8) (v : Value) (ls : List UInt8) (n : Nat) (w : World) (hv : ListS u8v w v ls) (hk : k.toNat % 4 = 2) (hn : n < 4294967296) :
    Calls Try.prog 10 #[.agg #[.int .u8 k.toNat, .int .u8 wh.toNat, v, .int .u32 n]] w fun e w' => e = .returned (draftT k wh ls n).val ∧ Below w.heap.size w w' := by
  obtain ⟨p, cap, rfl, h1, h2, h3⟩ := hv
  have HV : Hid ((draftT k wh ls n).val = .agg #[.int .i64 3, .string (bytesOf (digL (n % 10000))), .int .i64 wh.toNat]) := Lib.hid (by
    unfold draftT draftX ZTok.val; rw [if_neg (by omega), if_neg (by omega), if_pos hk, hk]; rfl)
  have k1 : (k.toNat : Int) % 4 = 2 := by omega
  have k2 : (k.toNat : Int) < 256 := by have := k.toNat_lt; omega
  have k3 : (wh.toNat : Int) < 256 := by have := wh.toNat_lt; omega
  have k4 : (0 : Int) ≤ (n : Int) % 10000 := by omega
  have k5 : (n : Int) % 10000 < 10000 := by omega
  have hd : ∀ w, Calls Try.prog 31 #[.int .i64 ((n : Int) % 10000)] w fun e w' => e = .returned (.string (bytesOf (digL (n % 10000)))) ∧ Below w.heap.size w w' := by
    intro w
    rw [show (n : Int) % 10000 = ((n % 10000 : Nat) : Int) from by omega]
    exact digits_any _ (by omega) w
  have HD := Lib.hid hd
  clear h3 hd hk
  go_enter Try.func10, Try.ntmps10
  go_wp2_with fail
  refine (HD.out _).mono ?_
  rintro e w1 ⟨rfl, hb1⟩
  have HT1 : Hid (TokAt w1 (w.heap.size + 1 + 1) (3) ⟨#[]⟩ wh.toNat) := Lib.hid (TokAt.below hb1 (heap_alloc_at (by simp)))
  have HZ1 : Hid (TokAt w1 (w.heap.size + 1) 0 ⟨#[]⟩ 0) := Lib.hid (TokAt.below hb1 (heap_alloc_lt (heap_alloc_at (by simp))))
  have HB1 : Hid (Below w.heap.size w w1) := Lib.hid (alloc_trans (alloc_trans (alloc_trans hb1)))
  have c1 := HT1.out.cells
  have c2 := HT1.out.free
  have c3 := HZ1.out.cells
  have c4 := HZ1.out.free
  have hne : ¬ w.heap.size + 1 = w.heap.size + 1 + 1 := by omega
  have hne2 : ¬ w.heap.size + 1 + 1 = w.heap.size + 1 := by omega
  have hlt1 := lt_of_blk HT1.out
  clear hb1
  go_wp2
  have HE : Hid (TokAt ((((w1.setCell ⟨w.heap.size + 1 + 1, 1, none⟩ (.string (bytesOf (digL (n % 10000))))).setCell ⟨w.heap.size + 1, 0, none⟩ (.int .i64 (3))).setCell ⟨w.heap.size + 1, 1, none⟩ (.string (bytesOf (digL (n % 10000))))).setCell ⟨w.heap.size + 1, 2, none⟩ (.int .i64 wh.toNat)) (w.heap.size + 1) (3) (bytesOf (digL (n % 10000))) wh.toNat) := Lib.hid ((((HZ1.out.far hne 1 _).set0 _).set1 _).set2 _)
  have HG : Hid (Below w.heap.size w ((((w1.setCell ⟨w.heap.size + 1 + 1, 1, none⟩ (.string (bytesOf (digL (n % 10000))))).setCell ⟨w.heap.size + 1, 0, none⟩ (.int .i64 (3))).setCell ⟨w.heap.size + 1, 1, none⟩ (.string (bytesOf (digL (n % 10000))))).setCell ⟨w.heap.size + 1, 2, none⟩ (.int .i64 wh.toNat))) := Lib.hid ((((HB1.out.setCell (p := ⟨w.heap.size + 1 + 1, 1, none⟩) (by show _ ≤ _ + 1 + 1; omega) _).setCell (p := ⟨w.heap.size + 1, 0, none⟩) (Nat.le_succ _) _).setCell (p := ⟨w.heap.size + 1, 1, none⟩) (Nat.le_succ _) _).setCell (p := ⟨w.heap.size + 1, 2, none⟩) (Nat.le_succ _) _)
  generalize ((((w1.setCell ⟨w.heap.size + 1 + 1, 1, none⟩ (.string (bytesOf (digL (n % 10000))))).setCell ⟨w.heap.size + 1, 0, none⟩ (.int .i64 (3))).setCell ⟨w.heap.size + 1, 1, none⟩ (.string (bytesOf (digL (n % 10000))))).setCell ⟨w.heap.size + 1, 2, none⟩ (.int .i64 wh.toNat)) = w9 at HE HG ⊢
  have q := HE.out.cells
  exact bodyPost_ret (v := .agg #[.int .i64 (3), .string (bytesOf (digL (n % 10000))), .int .i64 wh.toNat]) (by simp [results, Try.results10, go_sem, q.1, q.2.1, q.2.2]) rfl ⟨by rw [HV.out], HG.out⟩


theorem wordCells_i (i : Nat) (h : i < 23) : wordCells[i]? = some (.string (bytesOf (wordBytes.getD i []))) := by
  have := wordCells_at i h
  rw [this]
  congr 2
  unfold wordList
  rw [List.getD_eq_getElem?_getD, List.getD_eq_getElem?_getD, List.getElem?_map, List.getElem?_eq_getElem (show i < wordBytes.length from h)]
  rfl
theorem signCells_i (i : Nat) (h : i < 21) : signCells[i]? = some (.string (bytesOf (signBytes.getD i []))) := by
  have := signCells_at i h
  rw [this]
  congr 2
  unfold signList
  rw [List.getD_eq_getElem?_getD, List.getD_eq_getElem?_getD, List.getElem?_map, List.getElem?_eq_getElem (show i < signBytes.length from h)]
  rfl

def TokCut (w : World) (kd : Int) (X : ByteArray) (wh : Int) (w' : World) : Prop := TokAt w' (w.heap.size + 1 + 1) kd X wh ∧ TokAt w' (w.heap.size + 1) 0 ⟨#[]⟩ 0 ∧ Below w.heap.size w w'

set_option maxRecDepth 100000 in
set_option maxHeartbeats 4000000 in
theorem token_words (k wh : UInt8) (v : Value) (ls : List UInt8) (n : Nat) (w : World) (hk : k.toNat % 4 = 1) :
    Calls Try.prog 10 #[.agg #[.int .u8 k.toNat, .int .u8 wh.toNat, v, .int .u32 n]] w fun e w' => e = .returned (draftT k wh ls n).val ∧ Below w.heap.size w w' := by
  obtain ⟨X, hX⟩ : ∃ X, bytesOf (wordBytes.getD (wh.toNat % 23) []) = X := ⟨_, rfl⟩
  have HV : Hid ((draftT k wh ls n).val = .agg #[.int .i64 2, .string X, .int .i64 wh.toNat]) := Lib.hid (by
    rw [← hX]; unfold draftT draftX ZTok.val; simp [hk])
  have hwc := wordCells_i (wh.toNat % 23) (by omega)
  rw [hX] at hwc
  have k1 : (k.toNat : Int) % 4 = 1 := by omega
  have k2 : (k.toNat : Int) < 256 := by have := k.toNat_lt; omega
  have k3 : (wh.toNat : Int) < 256 := by have := wh.toNat_lt; omega
  have k4 : ((wh.toNat : Int) % 23).toNat = wh.toNat % 23 := by omega
  have k5 : (0 : Int) ≤ (wh.toNat : Int) % 23 := by omega
  have k6 : (wh.toNat : Int) % 23 < 23 := by omega
  have k7 : (wh.toNat : Int).tmod 23 = (wh.toNat : Int) % 23 := Int.tmod_eq_emod_of_nonneg (by omega)
  have k8 : IntKind.i64.wrap (wh.toNat : Int) = (wh.toNat : Int) := IntWalk.i64_in _ (by omega)
  have k9 : IntKind.i64.wrap ((wh.toNat : Int) % 23) = (wh.toNat : Int) % 23 := IntWalk.i64_in _ (by omega)
  clear hk hX
  go_enter Try.func10, Try.ntmps10
  go_upto_block 0 with (fail)
  go_cut [] (fun w' => TokCut w 2 X wh.toNat w')
  case first =>
    go_wp2_with fail
    refine wp_world (F := fun w1 => w1.cell? ⟨w.heap.size, 1, none⟩ = some (.int .u8 wh.toNat) ∧ TokCut w 2 ⟨#[]⟩ wh.toNat w1) ⟨?_, heap_alloc_at (by simp), heap_alloc_lt (heap_alloc_at (by simp)), (((Below.refl _ _).alloc (Nat.le_refl _) _).alloc (by simp) _).alloc (by simp; omega) _⟩ ?_
    · exact heap_alloc_cell (heap_alloc_cell (World.cell?_alloc_at (hn := rfl) ..))
    rintro w1 ⟨hD, hT, hZ, hB⟩
    have HT := Lib.hid hT
    have HZ := Lib.hid hZ
    have HB := Lib.hid hB
    have c1 := hT.cells.2.1
    have c2 := hT.free.2.1
    have hlt := lt_of_blk hT
    clear hT hZ hB
    have hDs := cell_lt hD
    have hne : ¬ w.heap.size + 1 = w.heap.size + 1 + 1 := by omega
    have hb2 := ((Below.refl w1.heap.size w1).alloc (Nat.le_refl _) (.cells wordCells 9)).alloc (by simp) (.cells wordCells 9)
    have HB2 := Lib.hid hb2
    have s1 : ((w1.alloc (.cells wordCells 9)).alloc (.cells wordCells 9)).cell? ⟨w.heap.size + 1 + 1, 1, none⟩ = some (.string ⟨#[]⟩) := heap_alloc_cell (heap_alloc_cell c1)
    have s2 : ((w1.alloc (.cells wordCells 9)).alloc (.cells wordCells 9)).frozen? ⟨w.heap.size + 1 + 1, 1, none⟩ = false := (hb2.frozen hlt).trans c2
    have s3 : ((w1.alloc (.cells wordCells 9)).alloc (.cells wordCells 9)).cell? ⟨w1.heap.size, wh.toNat % 23, none⟩ = some (.string X) := heap_alloc_cell ((World.cell?_alloc_at (hn := rfl) ..).trans hwc)
    have n1 : ¬ w.heap.size + 1 + 1 = w1.heap.size := by omega
    have n2 : ¬ w.heap.size + 1 + 1 = w1.heap.size + 1 := by omega
    have n3 : ¬ w.heap.size = w1.heap.size := by omega
    have n4 : ¬ w.heap.size = w1.heap.size + 1 := by omega
    clear hb2
    go_region_with ((go_at_call 15; refine (rwords_any _).mono ?_; rintro e w' ⟨rfl, rfl⟩))
    all_goals clear s1 s2 s3 n1 n2 n3 n4 c1 c2
    all_goals go_wp2_with fail
    all_goals go_meet
    all_goals exact ⟨(HT.out.below HB2.out).set1 X, (HZ.out.below HB2.out).far hne 1 (.string X), ((HB.out.trans (HB2.out.mono HB.out.size)).setCell (p := ⟨w.heap.size + 1 + 1, 1, none⟩) (by show _ ≤ _ + 1 + 1; omega) (.string X)).drew⟩
  case rest =>
    obtain ⟨hT9, hZ9, hB9⟩ := hcut
    have HZ9 := Lib.hid hZ9
    have HB9 := Lib.hid hB9
    have c5 := hT9.cells
    have c6 := hZ9.cells
    have c7 := hZ9.free
    clear hT9 hZ9 hB9
    go_wp2
    have HE : Hid (TokAt (((wc.setCell ⟨w.heap.size + 1, 0, none⟩ (.int .i64 2)).setCell ⟨w.heap.size + 1, 1, none⟩ (.string X)).setCell ⟨w.heap.size + 1, 2, none⟩ (.int .i64 wh.toNat)) (w.heap.size + 1) 2 X wh.toNat) := Lib.hid (((HZ9.out.set0 _).set1 _).set2 _)
    have HG : Hid (Below w.heap.size w (((wc.setCell ⟨w.heap.size + 1, 0, none⟩ (.int .i64 2)).setCell ⟨w.heap.size + 1, 1, none⟩ (.string X)).setCell ⟨w.heap.size + 1, 2, none⟩ (.int .i64 wh.toNat))) := Lib.hid (((HB9.out.setCell (p := ⟨w.heap.size + 1, 0, none⟩) (Nat.le_succ _) _).setCell (p := ⟨w.heap.size + 1, 1, none⟩) (Nat.le_succ _) _).setCell (p := ⟨w.heap.size + 1, 2, none⟩) (Nat.le_succ _) _)
    generalize (((wc.setCell ⟨w.heap.size + 1, 0, none⟩ (.int .i64 2)).setCell ⟨w.heap.size + 1, 1, none⟩ (.string X)).setCell ⟨w.heap.size + 1, 2, none⟩ (.int .i64 wh.toNat)) = w9 at HE HG ⊢
    have q := HE.out.cells
    exact bodyPost_ret (v := .agg #[.int .i64 2, .string X, .int .i64 wh.toNat]) (by simp [results, Try.results10, go_sem, q.1, q.2.1, q.2.2]) rfl ⟨by rw [HV.out], HG.out⟩

set_option maxRecDepth 100000 in
set_option maxHeartbeats 4000000 in
theorem token_signs (k wh : UInt8) (v : Value) (ls : List UInt8) (n : Nat) (w : World) (hk : k.toNat % 4 = 3) :
    Calls Try.prog 10 #[.agg #[.int .u8 k.toNat, .int .u8 wh.toNat, v, .int .u32 n]] w fun e w' => e = .returned (draftT k wh ls n).val ∧ Below w.heap.size w w' := by
  obtain ⟨X, hX⟩ : ∃ X, bytesOf (signBytes.getD (wh.toNat % 21) []) = X := ⟨_, rfl⟩
  have HV : Hid ((draftT k wh ls n).val = .agg #[.int .i64 4, .string X, .int .i64 wh.toNat]) := Lib.hid (by
    rw [← hX]; unfold draftT draftX ZTok.val; simp [hk])
  have hwc := signCells_i (wh.toNat % 21) (by omega)
  rw [hX] at hwc
  have k1 : (k.toNat : Int) % 4 = 3 := by omega
  have k2 : (k.toNat : Int) < 256 := by have := k.toNat_lt; omega
  have k3 : (wh.toNat : Int) < 256 := by have := wh.toNat_lt; omega
  have k4 : ((wh.toNat : Int) % 21).toNat = wh.toNat % 21 := by omega
  have k5 : (0 : Int) ≤ (wh.toNat : Int) % 21 := by omega
  have k6 : (wh.toNat : Int) % 21 < 21 := by omega
  have k7 : (wh.toNat : Int).tmod 21 = (wh.toNat : Int) % 21 := Int.tmod_eq_emod_of_nonneg (by omega)
  have k8 : IntKind.i64.wrap (wh.toNat : Int) = (wh.toNat : Int) := IntWalk.i64_in _ (by omega)
  have k9 : IntKind.i64.wrap ((wh.toNat : Int) % 21) = (wh.toNat : Int) % 21 := IntWalk.i64_in _ (by omega)
  clear hk hX
  go_enter Try.func10, Try.ntmps10
  go_upto_block 0 with (fail)
  go_cut [] (fun w' => TokCut w 4 X wh.toNat w')
  case first =>
    go_wp2_with fail
    refine wp_world (F := fun w1 => w1.cell? ⟨w.heap.size, 1, none⟩ = some (.int .u8 wh.toNat) ∧ TokCut w 4 ⟨#[]⟩ wh.toNat w1) ⟨?_, heap_alloc_at (by simp), heap_alloc_lt (heap_alloc_at (by simp)), (((Below.refl _ _).alloc (Nat.le_refl _) _).alloc (by simp) _).alloc (by simp; omega) _⟩ ?_
    · exact heap_alloc_cell (heap_alloc_cell (World.cell?_alloc_at (hn := rfl) ..))
    rintro w1 ⟨hD, hT, hZ, hB⟩
    have HT := Lib.hid hT
    have HZ := Lib.hid hZ
    have HB := Lib.hid hB
    have c1 := hT.cells.2.1
    have c2 := hT.free.2.1
    have hlt := lt_of_blk hT
    clear hT hZ hB
    have hDs := cell_lt hD
    have hne : ¬ w.heap.size + 1 = w.heap.size + 1 + 1 := by omega
    have hb2 := ((Below.refl w1.heap.size w1).alloc (Nat.le_refl _) (.cells signCells 9)).alloc (by simp) (.cells signCells 9)
    have HB2 := Lib.hid hb2
    have s1 : ((w1.alloc (.cells signCells 9)).alloc (.cells signCells 9)).cell? ⟨w.heap.size + 1 + 1, 1, none⟩ = some (.string ⟨#[]⟩) := heap_alloc_cell (heap_alloc_cell c1)
    have s2 : ((w1.alloc (.cells signCells 9)).alloc (.cells signCells 9)).frozen? ⟨w.heap.size + 1 + 1, 1, none⟩ = false := (hb2.frozen hlt).trans c2
    have s3 : ((w1.alloc (.cells signCells 9)).alloc (.cells signCells 9)).cell? ⟨w1.heap.size, wh.toNat % 21, none⟩ = some (.string X) := heap_alloc_cell ((World.cell?_alloc_at (hn := rfl) ..).trans hwc)
    have n1 : ¬ w.heap.size + 1 + 1 = w1.heap.size := by omega
    have n2 : ¬ w.heap.size + 1 + 1 = w1.heap.size + 1 := by omega
    have n3 : ¬ w.heap.size = w1.heap.size := by omega
    have n4 : ¬ w.heap.size = w1.heap.size + 1 := by omega
    clear hb2
    go_region_with ((go_at_call 17; refine (rsigns_any _).mono ?_; rintro e w' ⟨rfl, rfl⟩))
    all_goals clear s1 s2 s3 n1 n2 n3 n4 c1 c2
    all_goals go_wp2_with fail
    all_goals go_meet
    all_goals exact ⟨(HT.out.below HB2.out).set1 X, (HZ.out.below HB2.out).far hne 1 (.string X), ((HB.out.trans (HB2.out.mono HB.out.size)).setCell (p := ⟨w.heap.size + 1 + 1, 1, none⟩) (by show _ ≤ _ + 1 + 1; omega) (.string X)).drew⟩
  case rest =>
    obtain ⟨hT9, hZ9, hB9⟩ := hcut
    have HZ9 := Lib.hid hZ9
    have HB9 := Lib.hid hB9
    have c5 := hT9.cells
    have c6 := hZ9.cells
    have c7 := hZ9.free
    clear hT9 hZ9 hB9
    go_wp2
    have HE : Hid (TokAt (((wc.setCell ⟨w.heap.size + 1, 0, none⟩ (.int .i64 4)).setCell ⟨w.heap.size + 1, 1, none⟩ (.string X)).setCell ⟨w.heap.size + 1, 2, none⟩ (.int .i64 wh.toNat)) (w.heap.size + 1) 4 X wh.toNat) := Lib.hid (((HZ9.out.set0 _).set1 _).set2 _)
    have HG : Hid (Below w.heap.size w (((wc.setCell ⟨w.heap.size + 1, 0, none⟩ (.int .i64 4)).setCell ⟨w.heap.size + 1, 1, none⟩ (.string X)).setCell ⟨w.heap.size + 1, 2, none⟩ (.int .i64 wh.toNat))) := Lib.hid (((HB9.out.setCell (p := ⟨w.heap.size + 1, 0, none⟩) (Nat.le_succ _) _).setCell (p := ⟨w.heap.size + 1, 1, none⟩) (Nat.le_succ _) _).setCell (p := ⟨w.heap.size + 1, 2, none⟩) (Nat.le_succ _) _)
    generalize (((wc.setCell ⟨w.heap.size + 1, 0, none⟩ (.int .i64 4)).setCell ⟨w.heap.size + 1, 1, none⟩ (.string X)).setCell ⟨w.heap.size + 1, 2, none⟩ (.int .i64 wh.toNat)) = w9 at HE HG ⊢
    have q := HE.out.cells
    exact bodyPost_ret (v := .agg #[.int .i64 4, .string X, .int .i64 wh.toNat]) (by simp [results, Try.results10, go_sem, q.1, q.2.1, q.2.2]) rfl ⟨by rw [HV.out], HG.out⟩
end Go.Proofs.Ytigppjgmfonodaa
