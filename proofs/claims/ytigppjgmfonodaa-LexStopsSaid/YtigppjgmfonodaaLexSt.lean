/- The walk of LexStops. -/
import Derived.Test.YtigppjgmfonodaaLexBk
namespace Go.Proofs.Ytigppjgmfonodaa
open Go.RowKit

/-- No token begins with this text, space behind it. -/
def Bad (B : List UInt8) : Prop := ∀ rest, skipF false (B ++ 32 :: rest) = B ++ 32 :: rest ∧ rightB (oneT (B ++ 32 :: rest)).1 (oneT (B ++ 32 :: rest)).2 = false
theorem bad0 : Bad [63] := fun rest => ⟨by simp [skipF], by kernel_rfl⟩
theorem bad1 : Bad [49, 97] := fun rest => ⟨by simp [skipF], by kernel_rfl⟩
theorem bad2 : Bad [48, 48] := fun rest => ⟨by simp [skipF], by kernel_rfl⟩
theorem bad3 : Bad [49, 50, 51, 52, 53] := fun rest => ⟨by simp [skipF], by kernel_rfl⟩
theorem bad4 : Bad [97, 98, 99, 100, 101, 102, 103, 104, 105, 106, 107, 108, 109] := fun rest => ⟨by simp [skipF], by kernel_rfl⟩
theorem bad5 : Bad [33] := fun rest => ⟨by simp [skipF], by kernel_rfl⟩
theorem bad6 : Bad [46] := fun rest => ⟨by simp [skipF], by kernel_rfl⟩
theorem bad7 : Bad [95, 97] := fun rest => ⟨by simp [skipF], by kernel_rfl⟩
theorem bad8 : Bad [65] := fun rest => ⟨by simp [skipF], by kernel_rfl⟩
theorem bad_index (z : Int) (h1 : 0 ≤ z) (h2 : z < 9) : ∃ B : List UInt8, (∀ W : World, (Instr.index 53 (.agg #[.string ⟨#[63]⟩, .string ⟨#[49, 97]⟩, .string ⟨#[48, 48]⟩, .string ⟨#[49, 50, 51, 52, 53]⟩, .string ⟨#[97, 98, 99, 100, 101, 102, 103, 104, 105, 106, 107, 108, 109]⟩, .string ⟨#[33]⟩, .string ⟨#[46]⟩, .string ⟨#[95, 97]⟩, .string ⟨#[65]⟩]) (.int .u8 z)).run Try.prog W = .ok (.string (bytesOf B)) W) ∧ Bad B ∧ B.length ≤ 13 := by
  have hz : z = 0 ∨ z = 1 ∨ z = 2 ∨ z = 3 ∨ z = 4 ∨ z = 5 ∨ z = 6 ∨ z = 7 ∨ z = 8 := by omega
  rcases hz with rfl | rfl | rfl | rfl | rfl | rfl | rfl | rfl | rfl
  · exact ⟨_, fun W => by kernel_rfl, bad0, by decide⟩
  · exact ⟨_, fun W => by kernel_rfl, bad1, by decide⟩
  · exact ⟨_, fun W => by kernel_rfl, bad2, by decide⟩
  · exact ⟨_, fun W => by kernel_rfl, bad3, by decide⟩
  · exact ⟨_, fun W => by kernel_rfl, bad4, by decide⟩
  · exact ⟨_, fun W => by kernel_rfl, bad5, by decide⟩
  · exact ⟨_, fun W => by kernel_rfl, bad6, by decide⟩
  · exact ⟨_, fun W => by kernel_rfl, bad7, by decide⟩
  · exact ⟨_, fun W => by kernel_rfl, bad8, by decide⟩

theorem stop_scan {l : List ZTok} (h : ∀ t ∈ l, rightB t.kind t.text = true) (h1 : l.length ≤ 100) {B rest : List UInt8} (hB : Bad B) {J : List UInt8} (hJ : Lib.join (l.map (·.text)) [32] = J) (h2 : (J ++ 10 :: (B ++ 32 :: rest)).length ≤ 20000) :
    scanT (J ++ 10 :: (B ++ 32 :: rest)) = ([], J.length + 1, 340) := by
  obtain ⟨hb1, hb2⟩ := hB rest
  have hp := padded_spaced h
  have h3 := pad_len_ge hp
  rw [← pad_spaced] at hJ
  rw [hJ, spaced_length] at h3
  unfold scanT
  rw [if_neg (by omega)]
  obtain ⟨f, hf⟩ : ∃ f, (J ++ 10 :: (B ++ 32 :: rest)).length + 1 = f + 1 + (spaced l).length := ⟨(J ++ 10 :: (B ++ 32 :: rest)).length - (spaced l).length, by rw [spaced_length]; simp only [List.length_append]; omega⟩
  rw [hf]
  have hm := scan_many (n := (J ++ 10 :: (B ++ 32 :: rest)).length) (spaced l) false (10 :: (B ++ 32 :: rest)) [] (f + 1) 0 (by rw [hJ]; omega) hp (.inr ⟨10, _, rfl, .inr (.inl rfl)⟩) (by rw [spaced_length]; simp; omega)
  rw [hJ] at hm
  rw [hm, ← scanG_skip, show skipF false (10 :: (B ++ 32 :: rest)) = B ++ 32 :: rest by rw [← hb1]; simp [skipF, hb1]]
  rw [scanG_bad hb1 (by simp) hb2]
  simp
  omega
set_option maxRecDepth 100000 in
set_option maxHeartbeats 4000000 in
theorem stops_walk (v : Value) (n : Nat) (t : UInt8) (s : ByteArray) (w : World) (hs : s.size ≤ maxLen) (hv : DraftIn w v n) :
    Calls Try.prog 7 #[v, .int .u8 t.toNat, .string s] w fun e w' => e = .returned (.bool true) ∧ Below w.heap.size w w' := by
  unfold maxLen at hs
  have HV := Lib.hid hv
  clear hv
  have htl : (t.toNat : Int) < 256 := by have := t.toNat_lt; omega
  have hm1 : (0 : Int) ≤ (t.toNat : Int) % 9 := by omega
  have hm2 : (t.toNat : Int) % 9 < 9 := by omega
  obtain ⟨B, hix, hBad, hBl⟩ := bad_index ((t.toNat : Int) % 9) hm1 hm2
  have HBAD := Lib.hid hBad
  have hq2 : (bytesOf B).size ≤ 13 := by rw [bytesOf_size]; exact hBl
  obtain ⟨R, hR⟩ : ∃ R, s.extract 0 (min (s.size : Int) 40).toNat = R := ⟨_, rfl⟩
  have hq3 : R.size ≤ 40 := by rw [← hR, ByteArray.size_extract]; omega
  have hR' : s.extract 0 (min (s.size : Int) 40).toNat = R := hR
  clear hR hBad hBl
  go_enter Try.func7, Try.ntmps7
  go_wp2_with fail
  refine (works_any _).mono ?_
  rintro e w0 ⟨rfl, hb0⟩
  have HB0 := Lib.hid hb0
  have HV0 := Lib.hid (HV.out.below hb0)
  clear hb0 HV
  go_wp2_with fail
  refine (drafted_any v n 20 w0 HV0.out (by omega)).mono ?_
  rintro e w1 ⟨r, l, rfl, hl, hdr, hT, hb1⟩
  have HB1 := Lib.hid (HB0.out.trans (hb1.mono HB0.out.size))
  have HT := Lib.hid hT
  have HP := Lib.hid (drafts_printed hdr (by omega))
  have hj := join_le (l.map (·.text)) 12 (by intro x hx; obtain ⟨t, ht, rfl⟩ := List.mem_map.1 hx; exact HP.out.2.2 t ht)
  rw [List.length_map] at hj
  obtain ⟨J, hJ⟩ : ∃ J, Lib.join (l.map (·.text)) [32] = J := ⟨_, rfl⟩
  have hP1 := HP.out.1
  rw [hJ] at hj hP1
  have hq1 : (bytesOf J).size ≤ 300 := by rw [bytesOf_size]; omega
  have HP1 := Lib.hid hP1
  have HSC : Hid (scanT (bytesOf J ++ ⟨#[10]⟩ ++ bytesOf B ++ ⟨#[32]⟩ ++ R).data.toList = ([], J.length + 1, 340)) := Lib.hid (by
    have h := stop_scan (fun t ht => (hdr t ht).1) (by omega) (rest := R.data.toList) HBAD.out hJ (by
      rw [bytesOf_size] at hq1 hq2
      have : R.data.toList.length = R.size := by simp
      simp only [List.length_append, List.length_cons]; omega)
    rw [← h]
    congr 1
    simp [bytesOf])
  clear hdr hb1 HB0 HV0 hT hj hP1 hJ
  go_wp2_with fail
  refine (print_any _ _ l HT.out (fun t ht => by have := HP.out.2.2 t ht; omega)).mono ?_
  rintro e w2 ⟨rfl, hb2⟩
  rw [HP1.out]
  have HB2 := Lib.hid (HB1.out.trans (hb2.mono HB1.out.size))
  clear hb2 HB1 HT HP HP1
  go_wp2_with fail
  refine (scan_any _ _).mono ?_
  rintro e w3 ⟨v3, rfl, ht3, hb3⟩
  rw [HSC.out] at ht3 ⊢
  obtain ⟨p3, c3, rfl⟩ := ownsRow_form ht3
  have HB3 := Lib.hid (HB2.out.trans (hb3.mono HB2.out.size))
  have hsz : ((bytesOf J).size : Int) = (J.length : Int) := by rw [bytesOf_size]
  have hdc : ((J.length : Int) + 1 == (J.length : Int) + 1) = true := by simp
  clear ht3 hb3 HB2 HSC
  go_wp2
  go_ret
  exact ⟨rfl, HB3.out⟩
end Go.Proofs.Ytigppjgmfonodaa
