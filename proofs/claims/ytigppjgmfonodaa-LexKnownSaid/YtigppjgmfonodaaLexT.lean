/- Slices of tokens that are read: Same, equal. -/
import Derived.Test.YtigppjgmfonodaaLexS
import Derived.Laws.StructEq
namespace Go.Proofs.Ytigppjgmfonodaa
open Go.RowKit

/-- Any token, as data. -/
structure ZTok where
  kind : Int
  text : List UInt8
  pos : Int
deriving DecidableEq
def Tok.z (t : Tok) : ZTok := ⟨t.kind, t.text, t.pos⟩
def ZTok.val (t : ZTok) : Value := .agg #[.int .i64 t.kind, .string (bytesOf t.text), .int .i64 t.pos]
def ZTok.cells (t : ZTok) : List Value := [.int .i64 t.kind, .string (bytesOf t.text), .int .i64 t.pos]
def zCells (l : List ZTok) : List Value := l.flatMap ZTok.cells
theorem zCells_snoc (l : List ZTok) (t : ZTok) : zCells (l ++ [t]) = zCells l ++ t.cells := by simp [zCells]
theorem zCells_append (l m : List ZTok) : zCells (l ++ m) = zCells l ++ zCells m := by simp [zCells]
theorem tokCells_z (l : List Tok) : tokCells l = zCells (l.map Tok.z) := by
  simp only [tokCells, zCells, List.flatMap_map]; rfl
theorem zCells_at (l : List ZTok) (j : Nat) (t : ZTok) (h : l[j]? = some t) : (zCells l)[j * 3]? = some (.int .i64 t.kind) ∧ (zCells l)[j * 3 + 1]? = some (.string (bytesOf t.text)) ∧ (zCells l)[j * 3 + 2]? = some (.int .i64 t.pos) := by
  induction l generalizing j with
  | nil => simp at h
  | cons x r ih =>
    have e : zCells (x :: r) = [.int .i64 x.kind, .string (bytesOf x.text), .int .i64 x.pos] ++ zCells r := by simp [zCells, ZTok.cells]
    cases j with
    | zero =>
      simp at h; subst h
      rw [e]; simp
    | succ j =>
      have h' := ih j (by simpa using h)
      have s : ∀ c, (zCells (x :: r))[(j + 1) * 3 + c]? = (zCells r)[j * 3 + c]? := by
        intro c
        rw [e, List.getElem?_append_right (by simp; omega)]
        congr 1
        simp; omega
      exact ⟨(s 0).trans h'.1, (s 1).trans h'.2.1, (s 2).trans h'.2.2⟩

/-- A slice reads as a list of tokens. -/
def TokS (w : World) (v : Value) (l : List ZTok) : Prop :=
  ∃ (p : Option Addr) (cap : Nat), v = .slice p l.length cap ∧ l.length ≤ cap ∧ cap ≤ 9223372036854775807 ∧ (l ≠ [] → ∃ b o, p = some ⟨b, o, none⟩ ∧ ∀ (j : Nat) (t : ZTok), l[j]? = some t →
    w.cell? ⟨b, o + j * 3, none⟩ = some (.int .i64 t.kind) ∧ w.cell? ⟨b, o + j * 3 + 1, none⟩ = some (.string (bytesOf t.text)) ∧ w.cell? ⟨b, o + j * 3 + 2, none⟩ = some (.int .i64 t.pos))

theorem TokS.below {W w : World} {v : Value} {l : List ZTok} (h : TokS W v l) (hb : Below W.heap.size W w) : TokS w v l := by
  obtain ⟨p, cap, rfl, h1, h1', h2⟩ := h
  refine ⟨p, cap, rfl, h1, h1', fun hl => ?_⟩
  obtain ⟨b, o, rfl, hc⟩ := h2 hl
  exact ⟨b, o, rfl, fun j t ht => ⟨below_cell hb (hc j t ht).1, below_cell hb (hc j t ht).2.1, below_cell hb (hc j t ht).2.2⟩⟩

theorem TokS.of_own {w : World} {base : Nat} {v : Value} {l : List ZTok} (h : w.ownsRow base 23 3 v l.length (zCells l)) : TokS w v l := by
  obtain ⟨h0, h⟩ := h
  rcases h with ⟨rfl, hn⟩ | ⟨g, cap, cur, rfl, hb, hh, h1, h2, h3, h4⟩
  · exact ⟨none, 0, by rw [hn], by omega, by omega, fun hl => absurd (List.eq_nil_of_length_eq_zero hn) hl⟩
  · refine ⟨_, cap, rfl, h1, by simpa [maxLen] using h2, fun _ => ⟨g, 0, rfl, fun j t ht => ?_⟩⟩
    have hj : j < l.length := (List.getElem?_eq_some_iff.1 ht).1
    have hc := zCells_at l j t ht
    have key : ∀ c, c < 3 → w.cell? ⟨g, 0 + j * 3 + c, none⟩ = (zCells l)[j * 3 + c]? := by
      intro c hc3
      rw [← h4, List.getElem?_take, if_pos (by omega)]
      simp [World.cell?, hh]
    exact ⟨(key 0 (by omega)).trans hc.1, (key 1 (by omega)).trans hc.2.1, (key 2 (by omega)).trans hc.2.2⟩
theorem TokS.of_toks {w : World} {base : Nat} {v : Value} {l : List Tok} (h : ToksAt w base v l) : TokS w v (l.map Tok.z) := by
  refine TokS.of_own (base := base) ?_
  unfold ToksAt at h
  rwa [tokCells_z, ← List.length_map (f := Tok.z)] at h
theorem TokS.nil (w : World) : TokS w (.slice none 0 0) [] := ⟨none, 0, rfl, by simp, by omega, fun h => absurd rfl h⟩

set_option maxHeartbeats 1000000 in
theorem rsame_pos (w : World) (a b : Value) (l : List ZTok) (ha : TokS w a l) (hb : TokS w b l) (hl : l.length ≤ 1000000) :
    Calls Try.prog 22 #[a, b] w fun e w' => e = .returned (.bool true) ∧ Below w.heap.size w w' := by
  obtain ⟨pa, ca, rfl, ha1, ha1', ha2⟩ := ha
  obtain ⟨pb, cb, rfl, hb1, hb1', hb2⟩ := hb
  have HA := Lib.hid ha2
  have HB := Lib.hid hb2
  clear ha2 hb2
  go_enter Try.func22, Try.ntmps22
  go_wp2
  go_loopw [5] (fun i wr => ∃ k : Nat, k ≤ l.length ∧ i = .int .i64 k ∧ Below w.heap.size w wr) (fun i _ => l.length - (intOf i).toNat)
  case atStart => exact ⟨0, Nat.zero_le _, rfl, Below.refl _ _⟩
  case round =>
    obtain ⟨k, hk, rfl, hB⟩ := hrel
    by_cases hlt : k < l.length
    · have hne : l ≠ [] := by rintro rfl; simp at hlt
      obtain ⟨ba, oa, rfl, hca⟩ := HA.out hne
      obtain ⟨bb, ob, rfl, hcb⟩ := HB.out hne
      obtain ⟨t, ht⟩ : ∃ t, l[k]? = some t := ⟨_, List.getElem?_eq_getElem hlt⟩
      obtain ⟨p0, p1, p2⟩ := hca k t ht
      obtain ⟨q0, q1, q2⟩ := hcb k t ht
      have p0' := later_cell (below_cell hB p0)
      have p1' := later_cell (below_cell hB p1)
      have p2' := later_cell (below_cell hB p2)
      have q0' := later_cell (below_cell hB q0)
      have q1' := later_cell (below_cell hB q1)
      have q2' := later_cell (below_cell hB q2)
      clear hca hcb ht p0 p1 p2 q0 q1 q2 hne
      go_wp2_with fail
      refine wp_region_later (by kernel_rfl) (by kernel_rfl) ?_
      repeat (go_big_quiet_step (fail))
      refine wpQuiet_nil ?_
      intro w1 hb1
      go_wp2
      go_roundw
      case rel => exact ⟨k + 1, by omega, by go_num, hB.trans (hb1.mono hB.size)⟩
      case measure => simp [intOf]; omega
    · go_wp2
      go_ret
      exact ⟨rfl, hB⟩

set_option maxHeartbeats 1000000 in
theorem equal_pos (w : World) (a b : Value) (l l2 : List ZTok) (ha : TokS w a l) (hb : TokS w b l2) (hl : l.length ≤ 1000000) (he : l.map (fun t => (t.kind, t.text)) = l2.map (fun t => (t.kind, t.text))) :
    Calls Try.prog 26 #[a, b] w fun e w' => e = .returned (.bool true) ∧ Below w.heap.size w w' := by
  obtain ⟨pa, ca, rfl, ha1, ha1', ha2⟩ := ha
  obtain ⟨pb, cb, rfl, hb1, hb1', hb2⟩ := hb
  have HA := Lib.hid ha2
  have HB := Lib.hid hb2
  have HE := Lib.hid he
  have hlen : l2.length = l.length := by have := congrArg List.length he; simpa using this.symm
  rw [hlen] at hb1 ⊢
  have HL := Lib.hid hlen
  clear ha2 hb2 he hlen
  go_enter Try.func26, Try.ntmps26
  go_wp2
  go_loopw [5] (fun i wr => ∃ k : Nat, k ≤ l.length ∧ i = .int .i64 k ∧ Below w.heap.size w wr) (fun i _ => l.length - (intOf i).toNat)
  case atStart => exact ⟨0, Nat.zero_le _, rfl, Below.refl _ _⟩
  case round =>
    obtain ⟨k, hk, rfl, hB⟩ := hrel
    by_cases hlt : k < l.length
    · have hne : l ≠ [] := by rintro rfl; simp at hlt
      have hne2 : l2 ≠ [] := by rintro rfl; have := HL.out; simp at this; omega
      obtain ⟨ba, oa, rfl, hca⟩ := HA.out hne
      obtain ⟨bb, ob, rfl, hcb⟩ := HB.out hne2
      obtain ⟨t, ht⟩ : ∃ t, l[k]? = some t := ⟨_, List.getElem?_eq_getElem hlt⟩
      obtain ⟨t2, ht2⟩ : ∃ t, l2[k]? = some t := ⟨_, List.getElem?_eq_getElem (by rw [HL.out]; exact hlt)⟩
      have hkt : (t.kind, t.text) = (t2.kind, t2.text) := by
        have h := congrArg (fun x => x[k]?) HE.out
        simp only [List.getElem?_map, ht, ht2, Option.map_some] at h
        exact Option.some.inj h
      obtain ⟨p0, p1, p2⟩ := hca k t ht
      obtain ⟨q0, q1, q2⟩ := hcb k t2 ht2
      have e1 : t2.kind = t.kind := (congrArg Prod.fst hkt).symm
      have e2 : t2.text = t.text := (congrArg Prod.snd hkt).symm
      rw [e1] at q0
      rw [e2] at q1
      have p0' := later_cell (below_cell hB p0)
      have p1' := later_cell (below_cell hB p1)
      have q0' := later_cell (below_cell hB q0)
      have q1' := later_cell (below_cell hB q1)
      clear hca hcb ht ht2 p0 p1 p2 q0 q1 q2 hne hne2 hkt e1 e2
      have hz : (t.kind != t.kind) = false := by simp
      go_wp2_with fail
      refine wp_region_later (by kernel_rfl) (by kernel_rfl) ?_
      repeat (go_big_quiet_step (fail))
      refine wpQuiet_nil ?_
      intro w1 hb1
      go_wp2
      go_roundw
      case rel => exact ⟨k + 1, by omega, by go_num, hB.trans (hb1.mono hB.size)⟩
      case measure => simp [intOf]; omega
    · go_wp2
      go_ret
      exact ⟨rfl, hB⟩
end Go.Proofs.Ytigppjgmfonodaa
