/- drafted: the tokens of drafts that came in. -/
import Derived.Test.YtigppjgmfonodaaTokN
import Derived.Test.YtigppjgmfonodaaOpenD
namespace Go.Proofs.Ytigppjgmfonodaa
open Go.RowKit

/-- A slice of drafts that came in. -/
def DraftIn (w : World) (v : Value) (n : Nat) : Prop := ∃ (p : Option Addr) (cap : Nat), v = .slice p n cap ∧ n ≤ cap ∧ cap ≤ maxLen ∧ (0 < n → ∃ b o, p = some ⟨b, o, none⟩ ∧ ∀ j, j < n →
  ∃ (k wh : UInt8) (u : Value) (ls : List UInt8) (m : Nat), w.cell? ⟨b, o + j * 4, none⟩ = some (.int .u8 k.toNat) ∧ w.cell? ⟨b, o + j * 4 + 1, none⟩ = some (.int .u8 wh.toNat) ∧ w.cell? ⟨b, o + j * 4 + 2, none⟩ = some u ∧
    w.cell? ⟨b, o + j * 4 + 3, none⟩ = some (.int .u32 m) ∧ ListS u8v w u ls ∧ m < 4294967296)

/-- What is known of a draft's token. -/
def Drafty (t : ZTok) : Prop := rightB t.kind t.text = true ∧ 0 ≤ t.pos ∧ t.pos < 256
theorem drafty (k wh : UInt8) (ls : List UInt8) (n : Nat) : Drafty (draftT k wh ls n) := by
  refine ⟨draft_right k wh ls n, ?_, ?_⟩
  · show (0 : Int) ≤ (wh.toNat : Int); omega
  · show (wh.toNat : Int) < 256; have := wh.toNat_lt; omega

theorem zown_snoc {w : World} {base : Nat} {v : Value} {l : List ZTok} {t : ZTok} (h : w.ownsRow base 23 3 v (l.length + 1) (zCells l ++ [.int .i64 t.kind, .string (bytesOf t.text), .int .i64 t.pos])) : w.ownsRow base 23 3 v (l ++ [t]).length (zCells (l ++ [t])) := by
  rw [zCells_snoc, List.length_append]; exact h

set_option maxRecDepth 100000 in
set_option maxHeartbeats 4000000 in
theorem drafted_any (v : Value) (n most : Nat) (w : World) (hv : DraftIn w v n) (hmost : most ≤ 1000) :
    Calls Try.prog 25 #[v, .int .i64 most] w fun e w' => ∃ (r : Value) (l : List ZTok), e = .returned r ∧ l.length ≤ most ∧ (∀ t ∈ l, Drafty t) ∧ TokS w' r l ∧ Below w.heap.size w w' := by
  obtain ⟨p, cap, rfl, h1, h2, h3⟩ := hv
  unfold maxLen at h2
  have H3 := Lib.hid h3
  clear h3
  go_enter Try.func25, Try.ntmps25
  go_wp2
  go_loopw [5, 6] (fun out i wr => ∃ (k : Nat) (l : List ZTok), k ≤ n ∧ k ≤ most ∧ i = .int .i64 k ∧ l.length = k ∧ (∀ t ∈ l, Drafty t) ∧ wr.ownsRow w.heap.size 23 3 out l.length (zCells l) ∧ Below w.heap.size w wr) (fun _ i _ => n - (intOf i).toNat)
  case atStart => exact ⟨0, [], Nat.zero_le _, Nat.zero_le _, rfl, rfl, by simp, World.ownsRow_nil _ _ _ _, Below.refl _ _⟩
  case round =>
    obtain ⟨k, l, hk, hkm, rfl, hl, hdr, hrow, hB⟩ := hrel
    have HROW := Lib.hid hrow
    have HB := Lib.hid hB
    have HDR := Lib.hid hdr
    have hBs := hB.size
    obtain ⟨pp, cap', rfl⟩ := ownsRow_form hrow
    have HLK := Lib.hid hl
    clear hrow hB hl hdr
    by_cases hlt : k < n ∧ k < most
    · obtain ⟨hlt1, hlt2⟩ := hlt
      obtain ⟨b, o, rfl, hc⟩ := H3.out (by omega)
      obtain ⟨dk, dw, u, ls, m, e0, e1, e2, e3, hls, hm⟩ := hc k hlt1
      have c0 := below_cell HB.out e0
      have c1 := below_cell HB.out e1
      have c2 := below_cell HB.out e2
      have c3 := below_cell HB.out e3
      have HLS := Lib.hid (hls.below HB.out)
      clear e0 e1 e2 e3 hls hc
      go_wp2_with fail
      refine (token_any dk dw _ ls m _ HLS.out hm).mono ?_
      rintro e w1 ⟨rfl, hb1⟩
      have HD0 := Lib.hid (drafty dk dw ls m)
      generalize draftT dk dw ls m = D at HD0 ⊢
      obtain ⟨kd, tl, ps⟩ := D
      have HR1 := Lib.hid (ownsRow_below HROW.out hb1)
      have HB1 := Lib.hid (HB.out.trans (hb1.mono HB.out.size))
      have hbs1 := hb1.size
      obtain ⟨i0, hi, hz0, hz1, hz2⟩ := info_parts info_tok
      clear hb1 HROW HB c0 c1 c2 c3
      unfold ZTok.val
      go_wp2_with (at_builtin; refine wpList_append_own _ rfl _ _ 39 rfl w.heap.size 23 i0 (.agg #[.int .i64 0, .string ⟨#[]⟩, .int .i64 0]) 3 32 und_toks hi hz0 hz1 hz2 rfl (by decide) _ _ _ rfl (HR1.out.alloc _) ⟨w1.heap.size, 0, none⟩ 1 1 [.int .i64 kd, .string (bytesOf tl), .int .i64 ps] rfl rfl (cells_new _ _ _) (by simp [Value.oneCell']) (by simp [maxLen]; have := HLK.out; omega) (by have := HLK.out; omega) (by simp; have := HLK.out; omega) ?_; intro v' w2 hown' hgrow _; have HO2 := Lib.hid (zown_snoc (t := ⟨kd, tl, ps⟩) hown'); have HG : Hid (Below w.heap.size w w2) := Lib.hid ((HB1.out.alloc HB1.out.size _).grown hgrow (Nat.le_trans HB1.out.size (by simp)) (fun b e => (HR1.out.lt b e).1)); clear hown' hgrow)
      go_roundw
      case rel =>
        refine ⟨k + 1, l ++ [⟨kd, tl, ps⟩], by omega, by omega, by go_num, by have := HLK.out; simp; omega, ?_, HO2.out, HG.out⟩
        intro t ht
        rcases List.mem_append.1 ht with h | h
        · exact HDR.out t h
        · rw [List.mem_singleton.1 h]; exact HD0.out
      case measure => simp [intOf]; omega
    · by_cases hlt1 : k < n
      · have hlt2 : most ≤ k := by omega
        go_wp2
        go_ret
        exact ⟨_, l, rfl, by have := HLK.out; omega, HDR.out, TokS.of_own HROW.out, HB.out⟩
      · go_wp2
        go_ret
        exact ⟨_, l, rfl, by have := HLK.out; omega, HDR.out, TokS.of_own HROW.out, HB.out⟩
end Go.Proofs.Ytigppjgmfonodaa
