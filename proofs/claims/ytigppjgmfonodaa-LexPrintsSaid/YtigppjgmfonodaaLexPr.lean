/- The walk of LexPrints. -/
import Derived.Test.YtigppjgmfonodaaDrf
import Derived.Test.YtigppjgmfonodaaApp
import Derived.Test.YtigppjgmfonodaaLexBk
import Derived.Deep.DeepCutAuto
import Derived.Deep.CutBlock
namespace Go.Proofs.Ytigppjgmfonodaa
open Go.RowKit

theorem bad_row {w : World} {base : Nat} {v : Value} {l bad : List ZTok} {t : ZTok} {K : Nat} (h : w.ownsRow base 23 3 v (0 + K + 1 + (l.length - K)) ([] ++ zCells (l.take K) ++ zCells [t] ++ zCells (l.drop K))) (hK : K ≤ l.length)
    (hb : l.take K ++ [t] ++ l.drop K = bad) : TokS w v bad := by
  subst hb
  refine TokS.of_own (base := base) ?_
  have e : (l.take K ++ [t] ++ l.drop K).length = 0 + K + 1 + (l.length - K) := by
    simp only [List.length_append, List.length_take, List.length_drop, List.length_cons, List.length_nil]; omega
  rw [e, zCells_append, zCells_append]
  exact h
theorem end_row {w : World} {base : Nat} {v : Value} {l : List ZTok} {t : ZTok} (h : w.ownsRow base 23 3 v (0 + l.length + 1) ([] ++ zCells l ++ zCells [t])) : TokS w v (l ++ [t]) := by
  refine TokS.of_own (base := base) ?_
  rw [List.length_append, zCells_append]
  simpa using h
def Short (l : List ZTok) : Prop := ∀ t ∈ l, t.text.length ≤ 1000
theorem Short.app {l m : List ZTok} (h : Short l) (h2 : Short m) : Short (l ++ m) := fun t ht => (List.mem_append.1 ht).elim (h t) (h2 t)
theorem Short.drafts {l : List ZTok} (h : ∀ t ∈ l, Drafty t) : Short l := fun t ht => Nat.le_trans (right_len (h t ht).1) (by omega)
theorem Short.bad {l bad : List ZTok} {t : ZTok} {K : Nat} (h : Short l) (h2 : t.text.length ≤ 1000) (hb : l.take K ++ [t] ++ l.drop K = bad) : Short bad := by
  subst hb
  refine Short.app (Short.app (fun x hx => h x (List.mem_of_mem_take hx)) ?_) (fun x hx => h x (List.mem_of_mem_drop hx))
  intro x hx
  rw [List.mem_singleton.1 hx]; exact h2
set_option maxRecDepth 100000 in
set_option maxHeartbeats 4000000 in
theorem prints_walk (v : Value) (n : Nat) (kd at_ : Int) (tx : ByteArray) (a t : UInt8) (w : World) (htx : tx.size ≤ maxLen) (hv : DraftIn w v n) :
    Calls Try.prog 5 #[v, .agg #[.int .i64 kd, .string tx, .int .i64 at_], .int .u8 a.toNat, .int .u8 t.toNat] w fun e w' => e = .returned (.bool true) ∧ Below w.heap.size w w' := by
  obtain ⟨p, cap, rfl, h1, h2, h3⟩ := hv
  unfold maxLen at h2 htx
  have H3 := Lib.hid h3
  clear h3
  go_enter Try.func5, Try.ntmps5
  go_upto_block 0 with fail
  obtain ⟨X, hX⟩ : ∃ X, tx.extract 0 (min (tx.size : Int) 20).toNat = X := ⟨_, rfl⟩
  have hXs : X.size ≤ 20 := by rw [← hX, ByteArray.size_extract]; omega
  rw [hX]
  obtain ⟨XL, rfl⟩ : ∃ XL, X = bytesOf XL := ⟨X.data.toList, (bytesOf_list X).symm⟩
  refine at_world (R := Code.wp _ _ _ _) (F := fun w1 => TokAt w1 w.heap.size kd (bytesOf XL) at_ ∧ Below w.heap.size w w1) ⟨tok_new _ _ _ _, (Below.refl _ _).alloc (Nat.le_refl _) _⟩ ?_
  rintro w1 ⟨hTA, hb1⟩
  have HTA := Lib.hid hTA
  have HW1 := Lib.hid hb1
  clear hTA hX
  go_cut [9] (fun s9 wc => ∃ l : List ZTok, l.length ≤ 40 ∧ (∀ t ∈ l, Drafty t) ∧ wc.ownsRow w1.heap.size 23 3 s9 l.length (zCells l) ∧ Below w1.heap.size w1 wc)
  case first =>
    go_wp2_with fail
    go_loopw [9, 10] (fun out i wr => ∃ (k : Nat) (l : List ZTok), k ≤ n ∧ k ≤ 40 ∧ i = .int .i64 k ∧ l.length = k ∧ (∀ t ∈ l, Drafty t) ∧ wr.ownsRow w1.heap.size 23 3 out l.length (zCells l) ∧ Below w1.heap.size w1 wr) (fun _ i _ => n - (intOf i).toNat)
    case atStart => exact ⟨0, [], Nat.zero_le _, Nat.zero_le _, rfl, rfl, by simp, World.ownsRow_nil _ _ _ _, Below.refl _ _⟩
    case round =>
      obtain ⟨k, l, hk, hkm, rfl, hl, hdr, hrow, hB⟩ := hrel
      have HROW := Lib.hid hrow
      have HB := Lib.hid hB
      have HDR := Lib.hid hdr
      have hBs := hB.size
      obtain ⟨pp, cap', rfl⟩ := ownsRow_form hrow
      have HLK := Lib.hid hl
      clear hrow hB hl hdr
      by_cases hlt : k < n ∧ k < 40
      · obtain ⟨hlt1, hlt2⟩ := hlt
        obtain ⟨b, o, rfl, hc⟩ := H3.out (by omega)
        obtain ⟨dk, dw, u, ls, m, e0, e1, e2, e3, hls, hm⟩ := hc k hlt1
        have hbw := HW1.out.trans (HB.out.mono HW1.out.size)
        have c0 := below_cell hbw e0
        have c1 := below_cell hbw e1
        have c2 := below_cell hbw e2
        have c3 := below_cell hbw e3
        have HLS := Lib.hid (hls.below hbw)
        clear e0 e1 e2 e3 hls hc hbw
        go_wp2_with fail
        refine (token_any dk dw _ ls m _ HLS.out hm).mono ?_
        rintro e w2 ⟨rfl, hb2⟩
        have HD0 := Lib.hid (drafty dk dw ls m)
        generalize draftT dk dw ls m = D at HD0 ⊢
        obtain ⟨kd2, tl, ps⟩ := D
        have HR1 := Lib.hid (ownsRow_below HROW.out hb2)
        have HB1 := Lib.hid (HB.out.trans (hb2.mono HB.out.size))
        have hbs1 := hb2.size
        obtain ⟨i0, hi, hz0, hz1, hz2⟩ := info_parts info_tok
        clear hb2 HROW HB c0 c1 c2 c3
        unfold ZTok.val
        go_wp2_with (at_builtin; refine wpList_append_own _ rfl _ _ 39 rfl w1.heap.size 23 i0 (.agg #[.int .i64 0, .string ⟨#[]⟩, .int .i64 0]) 3 32 und_toks hi hz0 hz1 hz2 rfl (by decide) _ _ _ rfl (HR1.out.alloc _) ⟨w2.heap.size, 0, none⟩ 1 1 [.int .i64 kd2, .string (bytesOf tl), .int .i64 ps] rfl rfl (cells_new _ _ _) (by simp [Value.oneCell']) (by simp [maxLen]; have := HLK.out; omega) (by have := HLK.out; omega) (by simp; have := HLK.out; omega) ?_; intro v' w3 hown' hgrow _; have HO2 := Lib.hid (zown_snoc (t := ⟨kd2, tl, ps⟩) hown'); have HG : Hid (Below w1.heap.size w1 w3) := Lib.hid ((HB1.out.alloc HB1.out.size _).grown hgrow (Nat.le_trans HB1.out.size (by simp)) (fun b e => (HR1.out.lt b e).1)); clear hown' hgrow)
        go_roundw
        case rel =>
          refine ⟨k + 1, l ++ [⟨kd2, tl, ps⟩], by omega, by omega, by go_num, by have := HLK.out; simp; omega, ?_, HO2.out, HG.out⟩
          intro t ht
          rcases List.mem_append.1 ht with h | h
          · exact HDR.out t h
          · rw [List.mem_singleton.1 h]; exact HD0.out
        case measure => simp [intOf]; omega
      · by_cases hlt1 : k < n
        · have hlt2 : 40 ≤ k := by omega
          go_wp2_with fail
          go_meet
          exact ⟨l, by have := HLK.out; omega, HDR.out, HROW.out, HB.out⟩
        · go_wp2_with fail
          go_meet
          exact ⟨l, by have := HLK.out; omega, HDR.out, HROW.out, HB.out⟩
  case rest =>
    obtain ⟨l, hln, hdr, hrow, hB⟩ := hcut
    have HROW := Lib.hid hrow
    have HB := Lib.hid hB
    have HDR := Lib.hid hdr
    obtain ⟨pp, cap', rfl⟩ := ownsRow_form hrow
    clear hrow hB hdr
    have HT1 := Lib.hid (TokS.of_own HROW.out)
    have ha256 : (a.toNat : Int) < 256 := by have := a.toNat_lt; omega
    have hne0 : ¬ ((l.length : Int) + 1 = 0) := by omega
    go_upto_region 8 with fail
    obtain ⟨K, hK⟩ : ∃ K : Nat, (a.toNat : Int) % ((l.length : Int) + 1) = (K : Int) := ⟨((a.toNat : Int) % ((l.length : Int) + 1)).toNat, (Int.toNat_of_nonneg (Int.emod_nonneg _ hne0)).symm⟩
    have hKl : K ≤ l.length := by
      have h1 := Int.emod_lt_of_pos (a.toNat : Int) (show (0 : Int) < (l.length : Int) + 1 by omega)
      omega
    rw [hK]
    clear hK ha256 hne0
    obtain ⟨bad, hbad⟩ : ∃ bad : List ZTok, l.take K ++ [(⟨kd, XL, at_⟩ : ZTok)] ++ l.drop K = bad := ⟨_, rfl⟩
    have HBAD := Lib.hid hbad
    clear hbad
    go_cut [12] (fun s12 wx => TokS wx s12 bad ∧ Below w1.heap.size w1 wx ∧ TokS wx (.slice pp l.length cap') l)
    case first =>
      obtain ⟨hcap, hcap2⟩ : l.length ≤ cap' ∧ cap' ≤ 9223372036854775807 := by
        obtain ⟨p', c', he, h1, h2, _⟩ := HT1.out
        cases he
        exact ⟨h1, h2⟩
      have hKc : K ≤ cap' := by omega
      have htl : (l.take K).length = K := by rw [List.length_take]; omega
      have NT : Hid (News wc (.slice pp K cap') K (zCells (l.take K))) := Lib.hid (by have h := (HT1.out.take hKl).news; rwa [htl] at h)
      have ND := Lib.hid (HT1.out.drop_any hKl)
      have hta := HTA.out.below HB.out
      have hcc := hta.cells
      have hclt := lt_of_blk hta
      have hBs := HB.out.size
      obtain ⟨i0, hi, hz0, hz1, hz2⟩ := info_parts info_tok
      have hdl : (l.drop K).length = l.length - K := by simp
      go_region_law (first
        | (refine step_append_any _ rfl (.tmp 53) (.tmp 56) 39 rfl wc.heap.size 23 i0 (.agg #[.int .i64 0, .string ⟨#[]⟩, .int .i64 0]) 3 32 und_toks hi hz0 hz1 hz2 rfl (by decide) _ 0 [] rfl (by first | exact own_empty wc _ _ _ (Nat.le_refl _) | exact own_empty1 wc _ _ _ _ (Nat.le_succ _) | exact (own_empty wc _ _ _ (Nat.le_refl _)).alloc _) _ K (zCells (l.take K)) rfl (by refine NT.out.below ?_; first | exact ((Below.refl wc.heap.size wc).alloc (Nat.le_refl _) _).drew | exact (((Below.refl wc.heap.size wc).alloc (Nat.le_refl _) _).alloc (by simp <;> omega) _).drew) (by rw [zCells_length, htl]) (zCells_one _) (by simp [maxLen]; omega) (by omega) (by simp <;> omega) ?_; intro v57 w57 hown57 hgrow57;
            have HB57 : Hid (Below wc.heap.size wc w57) := Lib.hid (by first
              | exact ((Below.refl wc.heap.size wc).alloc (Nat.le_refl _) _).drew.grown hgrow57 (by simp <;> omega) (fun b e => ((own_empty wc wc.heap.size 23 3 (Nat.le_refl _)).lt b e).1)
              | exact (((Below.refl wc.heap.size wc).alloc (Nat.le_refl _) _).alloc (by simp <;> omega) _).drew.grown hgrow57 (by simp <;> omega) (fun b e => ((own_empty wc wc.heap.size 23 3 (Nat.le_refl _)).lt b e).1)
              | exact (((Below.refl wc.heap.size wc).alloc (Nat.le_refl _) _).alloc (by simp <;> omega) _).drew.grown hgrow57 (by simp <;> omega) (fun b e => ((own_empty1 wc (.cells #[.int .i64 kd, .string (bytesOf XL), .int .i64 at_] 23) wc.heap.size 23 3 (Nat.le_succ _)).lt b e).1));
            have hcc57 := (TokAt.below HB57.out hta).cells;
            have hs57 := HB57.out.size;
            first
              | have HTN : News w57 (.slice (some ⟨wc.heap.size, 0, none⟩) 1 1) 1 (zCells [(⟨kd, XL, at_⟩ : ZTok)]) := news_kept (e := 23) hgrow57 (heap_alloc_lt (heap_alloc_at rfl)) (fun e => absurd (Option.some.inj e) (by simp))
              | have HTN : News w57 (.slice (some ⟨wc.heap.size + 1, 0, none⟩) 1 1) 1 (zCells [(⟨kd, XL, at_⟩ : ZTok)]) := news_kept (e := 23) hgrow57 (heap_alloc_at (by simp)) (fun e => absurd (Option.some.inj e) (by simp))
              | skip)
        | (refine step_append_any _ rfl (.tmp 57) (.tmp 59) 39 rfl wc.heap.size 23 i0 (.agg #[.int .i64 0, .string ⟨#[]⟩, .int .i64 0]) 3 32 und_toks hi hz0 hz1 hz2 rfl (by decide) _ (0 + K) ([] ++ zCells (l.take K)) rfl (by first | exact hown57 | exact hown57.alloc _) _ 1 (zCells [(⟨kd, XL, at_⟩ : ZTok)]) rfl (by first | exact HTN | exact News.one (⟨kd, XL, at_⟩ : ZTok) _) rfl (zCells_one _) (by simp [maxLen]; omega) (by omega) (by first | exact hs57 | (simp; omega)) ?_; intro v60 w60 hown60 hgrow60;
            have HB60 : Hid (Below wc.heap.size wc w60) := Lib.hid (by first
              | exact HB57.out.grown hgrow60 hs57 (fun b e => (hown57.lt b e).1)
              | exact (HB57.out.alloc hs57 _).grown hgrow60 (by simp <;> omega) (fun b e => (hown57.lt b e).1));
            have hs60 := HB60.out.size)
        | (refine step_append_any _ rfl (.tmp 60) (.tmp 63) 39 rfl wc.heap.size 23 i0 (.agg #[.int .i64 0, .string ⟨#[]⟩, .int .i64 0]) 3 32 und_toks hi hz0 hz1 hz2 rfl (by decide) _ (0 + K + 1) ([] ++ zCells (l.take K) ++ zCells [(⟨kd, XL, at_⟩ : ZTok)]) rfl hown60 _ (l.length - K) (zCells (l.drop K)) rfl (by exact ND.out.below HB60.out) (by rw [zCells_length, hdl]) (zCells_one _) (by simp [maxLen]; omega) (by omega) hs60 ?_; intro v64 w64 hown64 hgrow64;
            have HB64 : Hid (Below wc.heap.size wc w64) := Lib.hid (HB60.out.grown hgrow64 hs60 (fun b e => (hown60.lt b e).1))))
      all_goals (try (generalize (if cap' = K then pp else Option.map (fun x => x.add (K * 3)) pp) = AD))
      all_goals (go_wp2_with fail)
      all_goals go_meet
      all_goals exact ⟨bad_row hown64 hKl HBAD.out, HB.out.trans (HB64.out.mono HB.out.size), HT1.out.below HB64.out⟩
    case rest =>
      obtain ⟨hT12, hBx, hT9⟩ := hcut
      have HT12 := Lib.hid hT12
      have HBX := Lib.hid hBx
      have HT9 := Lib.hid hT9
      have HT12S := Lib.hid (Short.bad (Short.drafts HDR.out) (by simpa [bytesOf, ByteArray.size] using Nat.le_trans hXs (by omega)) HBAD.out)
      obtain ⟨p12, c12, rfl, _⟩ := hT12
      clear hBx hT9 HROW HB HT1
      go_wp2_with fail
      go_loopw [13, 14] (fun out i wr => ∃ (k : Nat) (m : List ZTok), k ≤ t.toNat ∧ i = .int .i64 k ∧ m.length = k * l.length ∧ Short m ∧ wr.ownsRow wc.heap.size 23 3 out m.length (zCells m) ∧ Below wc.heap.size wc wr) (fun _ i _ => t.toNat - (intOf i).toNat)
      case atStart => exact ⟨0, [], Nat.zero_le _, rfl, by simp, by simp [Short], World.ownsRow_nil _ _ _ _, Below.refl _ _⟩
      case round =>
        obtain ⟨k, m, hk, rfl, hm, hms, hrow, hB⟩ := hrel
        have HROW := Lib.hid hrow
        have HM := Lib.hid hm
        have HMS := Lib.hid hms
        have HB := Lib.hid hB
        have hBs := hB.size
        have ht256 : (t.toNat : Int) < 256 := by have := t.toNat_lt; omega
        have hmb : m.length ≤ 10200 := by
          have : k * l.length ≤ 255 * 40 := Nat.mul_le_mul (by omega) hln
          omega
        obtain ⟨pm, cm, rfl⟩ := ownsRow_form hrow
        clear hrow hm hms hB
        by_cases hlt : k < t.toNat
        · have NW := Lib.hid (HT9.out.below HB.out).news
          have HZO := Lib.hid (zCells_one l)
          obtain ⟨i0, hi, hz0, hz1, hz2⟩ := info_parts info_tok
          go_wp2_with (at_builtin; refine wpList_append_any _ rfl _ _ 39 rfl wc.heap.size 23 i0 (.agg #[.int .i64 0, .string ⟨#[]⟩, .int .i64 0]) 3 32 und_toks hi hz0 hz1 hz2 rfl (by decide) _ _ _ rfl HROW.out _ l.length (zCells l) rfl NW.out (zCells_length l) HZO.out (by simp [maxLen]; omega) (by omega) hBs ?_; intro v' w3 hown' hgrow; have HO2 := Lib.hid (zown_app hown' rfl); have HG : Hid (Below wc.heap.size wc w3) := Lib.hid (HB.out.grown hgrow hBs (fun b e => (HROW.out.lt b e).1)); clear hown' hgrow)
          go_roundw
          case rel => exact ⟨k + 1, m ++ l, by omega, by go_num, by rw [List.length_append, HM.out, Nat.add_mul]; omega, HMS.out.app (Short.drafts HDR.out), HO2.out, HG.out⟩
          case measure => simp [intOf]; omega
        · obtain rfl : k = t.toNat := by omega
          have HT13 := Lib.hid (TokS.of_own HROW.out)
          have HT9' := Lib.hid (HT9.out.below HB.out)
          have HT12' := Lib.hid (HT12.out.below HB.out)
          have HB1 := Lib.hid (HBX.out.trans (HB.out.mono HBX.out.size))
          have hta := HTA.out.below HB1.out
          have HTA2 := Lib.hid hta
          have HXX := Lib.hid (show (⟨kd, XL, at_⟩ : ZTok).text.length ≤ 1000 by simpa [bytesOf, ByteArray.size] using Nat.le_trans hXs (by omega))
          clear hta HBX HT9 HT12 HB HM HROW HBAD
          obtain ⟨wl, rfl⟩ : ∃ wl : World, wl = wr := ⟨_, rfl⟩
          go_upto_region 14 with fail
          go_cut [83, 84] (fun s83 s84 wx => s84 = .int .i64 0 ∧ ∃ v82, s83 = .agg #[.slice pp l.length cap', .slice p12 bad.length c12, .slice pm m.length cm, v82] ∧ TokS wx v82 (m ++ [⟨kd, XL, at_⟩]) ∧ Below wl.heap.size wl wx)
          case first =>
            have hcc := HTA2.out.cells
            have NM := Lib.hid HT13.out.news
            have hclt := lt_of_blk HTA2.out
            have HZM := Lib.hid (zCells_one m)
            have HZ1 := Lib.hid (zCells_one [(⟨kd, XL, at_⟩ : ZTok)])
            have hBs := HB1.out.size
            obtain ⟨i0, hi, hz0, hz1, hz2⟩ := info_parts info_tok
            go_region_law (first
              | (refine step_append_any _ rfl (.tmp 77) (.tmp 78) 39 rfl wl.heap.size 23 i0 (.agg #[.int .i64 0, .string ⟨#[]⟩, .int .i64 0]) 3 32 und_toks hi hz0 hz1 hz2 rfl (by decide) _ 0 [] rfl (by first | exact own_empty wl _ _ _ (Nat.le_refl _) | exact own_empty1 wl _ _ _ _ (Nat.le_succ _) | exact (own_empty wl _ _ _ (Nat.le_refl _)).alloc _) _ m.length (zCells m) rfl (by refine NM.out.below ?_; first | exact ((Below.refl wl.heap.size wl).alloc (Nat.le_refl _) _).drew | exact (((Below.refl wl.heap.size wl).alloc (Nat.le_refl _) _).alloc (by simp <;> omega) _).drew) (zCells_length m) HZM.out (by simp [maxLen]; omega) (by omega) (by simp <;> omega) ?_; intro v57 w57 hown57 hgrow57;
                  have HB57 : Hid (Below wl.heap.size wl w57) := Lib.hid (by first
                    | exact ((Below.refl wl.heap.size wl).alloc (Nat.le_refl _) _).drew.grown hgrow57 (by simp <;> omega) (fun b e => ((own_empty wl wl.heap.size 23 3 (Nat.le_refl _)).lt b e).1)
                    | exact (((Below.refl wl.heap.size wl).alloc (Nat.le_refl _) _).alloc (by simp <;> omega) _).drew.grown hgrow57 (by simp <;> omega) (fun b e => ((own_empty wl wl.heap.size 23 3 (Nat.le_refl _)).lt b e).1)
                    | exact (((Below.refl wl.heap.size wl).alloc (Nat.le_refl _) _).alloc (by simp <;> omega) _).drew.grown hgrow57 (by simp <;> omega) (fun b e => ((own_empty1 wl (.cells #[.int .i64 kd, .string (bytesOf XL), .int .i64 at_] 23) wl.heap.size 23 3 (Nat.le_succ _)).lt b e).1));
                  have hcc57 := (TokAt.below HB57.out HTA2.out).cells;
                  have hs57 := HB57.out.size;
                  first
                    | have HTN : News w57 (.slice (some ⟨wl.heap.size, 0, none⟩) 1 1) 1 (zCells [(⟨kd, XL, at_⟩ : ZTok)]) := news_kept (e := 23) hgrow57 (heap_alloc_lt (heap_alloc_at rfl)) (fun e => absurd (Option.some.inj e) (by simp))
                    | have HTN : News w57 (.slice (some ⟨wl.heap.size + 1, 0, none⟩) 1 1) 1 (zCells [(⟨kd, XL, at_⟩ : ZTok)]) := news_kept (e := 23) hgrow57 (heap_alloc_at (by simp)) (fun e => absurd (Option.some.inj e) (by simp))
                    | skip)
              | (refine step_append_any _ rfl (.tmp 79) (.tmp 81) 39 rfl wl.heap.size 23 i0 (.agg #[.int .i64 0, .string ⟨#[]⟩, .int .i64 0]) 3 32 und_toks hi hz0 hz1 hz2 rfl (by decide) _ (0 + m.length) ([] ++ zCells m) rfl (by first | exact hown57 | exact hown57.alloc _) _ 1 (zCells [(⟨kd, XL, at_⟩ : ZTok)]) rfl (by first | exact HTN | exact News.one (⟨kd, XL, at_⟩ : ZTok) _) rfl HZ1.out (by simp [maxLen]; omega) (by omega) (by first | exact hs57 | (simp; omega)) ?_; intro v60 w60 hown60 hgrow60; obtain ⟨g60, c60, rfl⟩ := ownsRow_form hown60;
                  have HB60 : Hid (Below wl.heap.size wl w60) := Lib.hid (by first
                    | exact HB57.out.grown hgrow60 hs57 (fun b e => (hown57.lt b e).1)
                    | exact (HB57.out.alloc hs57 _).grown hgrow60 (by simp <;> omega) (fun b e => (hown57.lt b e).1))))
            all_goals (go_wp2_with fail)
            all_goals go_meet
            all_goals exact ⟨rfl, _, rfl, by have h := end_row hown60; simpa only [Nat.zero_add] using h, HB60.out⟩
          case rest =>
            obtain ⟨rfl, v82, rfl, hT82, hBy⟩ := hcut
            obtain ⟨p82, c82, rfl, _⟩ := id hT82
            rw [show (m ++ [(⟨kd, XL, at_⟩ : ZTok)]).length = m.length + 1 by simp] at hT82 ⊢
            have Q82 := Lib.hid hT82
            clear hT82
            have hmsx := HMS.out
            have HZ9 := Lib.hid (Short.drafts HDR.out)
            have HZ82 := Lib.hid (Short.app HMS.out (show Short [(⟨kd, XL, at_⟩ : ZTok)] from fun y hy => by rw [List.mem_singleton.1 hy]; exact HXX.out))
            have Q9 := Lib.hid (HT9'.out.below hBy)
            have Q12 := Lib.hid (HT12'.out.below hBy)
            have Q13 := Lib.hid (HT13.out.below hBy)
            have HBW := Lib.hid (HW1.out.trans ((HB1.out.trans (hBy.mono HB1.out.size)).mono HW1.out.size))
            clear HT9' HT12' HT13 hBy HTA HTA2 HMS HDR HXX HW1 HB1 H3
            have HMS2 := Lib.hid hmsx
            clear hmsx
            have HIX : Hid (∀ j : Nat, j < 4 → ∃ (v : Value) (L : List ZTok), TokS wc v L ∧ Short L ∧ ∀ W : World, (Instr.index 45 (.agg #[.slice pp l.length cap', .slice p12 bad.length c12, .slice pm m.length cm, .slice p82 (m.length + 1) c82]) (.int .i64 (j : Int))).run Try.prog W = .ok v W) := Lib.hid (fun j hj => by
              obtain rfl | rfl | rfl | rfl : j = 0 ∨ j = 1 ∨ j = 2 ∨ j = 3 := by omega
              · exact ⟨_, l, Q9.out, HZ9.out, fun _ => by kernel_rfl⟩
              · exact ⟨_, bad, Q12.out, HT12S.out, fun _ => by kernel_rfl⟩
              · exact ⟨_, m, Q13.out, HMS2.out, fun _ => by kernel_rfl⟩
              · exact ⟨_, m ++ [⟨kd, XL, at_⟩], Q82.out, HZ82.out, fun _ => by kernel_rfl⟩)
            clear Q9 Q12 Q13 Q82 HZ9 HT12S HMS2 HZ82
            go_wp2_with fail
            go_loopw [84] (fun i wr => ∃ k : Nat, k ≤ 4 ∧ i = .int .i64 k ∧ Below wc.heap.size wc wr) (fun i _ => 4 - (intOf i).toNat)
            case atStart => exact ⟨0, by omega, rfl, Below.refl _ _⟩
            case round =>
              obtain ⟨j, hj, rfl, hBj⟩ := hrel
              have HBJ := Lib.hid hBj
              clear hBj
              by_cases hj4 : j < 4
              · obtain ⟨vj, L, hT, hS, hix⟩ := HIX.out j hj4
                have HT := Lib.hid (hT.below HBJ.out)
                have HS := Lib.hid hS
                clear hT hS
                go_wp2_with fail
                refine (print_any _ _ L HT.out HS.out).mono ?_
                rintro e w4 ⟨rfl, hb4⟩
                have HB4 := Lib.hid (HBJ.out.trans (hb4.mono HBJ.out.size))
                have HT4 := Lib.hid (HT.out.below hb4)
                clear hb4 HT
                obtain ⟨R, hR⟩ : ∃ R, printZ L = R := ⟨_, rfl⟩
                have HR := Lib.hid hR
                rw [hR]
                clear hR
                obtain ⟨S, hS⟩ : ∃ S, bytesOf R.1 = S := ⟨_, rfl⟩
                have HSS := Lib.hid hS
                rw [hS]
                clear hS
                have hdn : (R.2 != R.2) = false := by simp
                go_wp2_with fail
                refine (rprint_any _ _ L HT4.out HS.out).mono ?_
                rintro e w5 ⟨rfl, hb5⟩
                rw [HR.out, HSS.out]
                have HB5 := Lib.hid (HB4.out.trans (hb5.mono HB4.out.size))
                clear hb5 HB4 HT4
                go_wp2
                go_roundw
                case rel => exact ⟨j + 1, by omega, by go_num, HB5.out⟩
                case measure => simp [intOf]; omega
              · obtain rfl : j = 4 := by omega
                go_wp2_with fail
                refine (works_any _).mono ?_
                rintro e w9 ⟨rfl, hb9⟩
                go_wp2
                go_ret
                exact ⟨rfl, HBW.out.trans ((HBJ.out.trans (hb9.mono HBJ.out.size)).mono HBW.out.size)⟩
end Go.Proofs.Ytigppjgmfonodaa
