/- Lists of one cell an element; same; Print of the program and of the reference. -/
import Derived.Test.YtigppjgmfonodaaLexT
import Derived.Lib.Join
namespace Go.Proofs.Ytigppjgmfonodaa
open Go.RowKit

/-- A slice of one cell an element reads as a list. -/
def ListS {α : Type} (f : α → Value) (w : World) (v : Value) (l : List α) : Prop :=
  ∃ (p : Option Addr) (cap : Nat), v = .slice p l.length cap ∧ l.length ≤ cap ∧ cap ≤ 9223372036854775807 ∧ (l ≠ [] → ∃ b o, p = some ⟨b, o, none⟩ ∧ ∀ (j : Nat) (x : α), l[j]? = some x → w.cell? ⟨b, o + j, none⟩ = some (f x))
theorem ListS.below {α : Type} {f : α → Value} {W w : World} {v : Value} {l : List α} (h : ListS f W v l) (hb : Below W.heap.size W w) : ListS f w v l := by
  obtain ⟨p, cap, rfl, h1, h1', h2⟩ := h
  refine ⟨p, cap, rfl, h1, h1', fun hl => ?_⟩
  obtain ⟨b, o, rfl, hc⟩ := h2 hl
  exact ⟨b, o, rfl, fun j x hx => below_cell hb (hc j x hx)⟩
theorem ListS.of_own {α : Type} {f : α → Value} {w : World} {base e : Nat} {v : Value} {l : List α} (h : w.ownsRow base e 1 v l.length (l.map f)) : ListS f w v l := by
  obtain ⟨h0, h⟩ := h
  rcases h with ⟨rfl, hn⟩ | ⟨g, cap, cur, rfl, hb, hh, h1, h2, h3, h4⟩
  · exact ⟨none, 0, by rw [hn], by omega, by omega, fun hl => absurd (List.eq_nil_of_length_eq_zero hn) hl⟩
  · refine ⟨_, cap, rfl, h1, by simpa [maxLen] using h2, fun _ => ⟨g, 0, rfl, fun j t ht => ?_⟩⟩
    have hj : j < l.length := (List.getElem?_eq_some_iff.1 ht).1
    have h5 : (cur.toList.take (l.length * 1))[j]? = some (f t) := by rw [h4]; simp [ht]
    rw [List.getElem?_take, if_pos (by omega)] at h5
    simpa [World.cell?, hh] using h5
theorem ListS.lit {α : Type} (f : α → Value) (w : World) (l : List α) (t : TypeId) (hl : l.length ≤ 1000000) : ListS f (w.alloc (.cells (l.map f).toArray t)) (.slice (some ⟨w.heap.size, 0, none⟩) l.length l.length) l :=
  ⟨_, _, rfl, Nat.le_refl _, by omega, fun _ => ⟨_, 0, rfl, fun j x hx => by simp [hx]⟩⟩

set_option maxHeartbeats 1000000 in
theorem same_pos (w : World) (a b : Value) (l : List ByteArray) (ha : ListS Value.string w a l) (hb : ListS Value.string w b l) (hl : l.length ≤ 1000000) :
    Calls Try.prog 13 #[a, b] w fun e w' => e = .returned (.bool true) ∧ Below w.heap.size w w' := by
  obtain ⟨pa, ca, rfl, ha1, ha1', ha2⟩ := ha
  obtain ⟨pb, cb, rfl, hb1, hb1', hb2⟩ := hb
  have HA := Lib.hid ha2
  have HB := Lib.hid hb2
  clear ha2 hb2
  go_enter Try.func13, Try.ntmps13
  go_wp2
  go_loopw [5] (fun i wr => ∃ k : Nat, k ≤ l.length ∧ i = .int .i64 k ∧ Below w.heap.size w wr) (fun i _ => l.length - (intOf i).toNat)
  case atStart => exact ⟨0, Nat.zero_le _, rfl, Below.refl _ _⟩
  case round =>
    obtain ⟨k, hk, rfl, hB⟩ := hrel
    by_cases hlt : k < l.length
    · have hne : l ≠ [] := by rintro rfl; simp at hlt
      obtain ⟨ba, oa, rfl, hca⟩ := HA.out hne
      obtain ⟨bb, ob, rfl, hcb⟩ := HB.out hne
      obtain ⟨t, ht⟩ : ∃ t, l[k]? = some t := ⟨_, List.getElem?_eq_getElem hlt⟩
      have p0' := later_cell (below_cell hB (hca k t ht))
      have q0' := later_cell (below_cell hB (hcb k t ht))
      clear hca hcb ht hne
      go_wp2_with fail
      refine wp_region_later (by kernel_rfl) (by kernel_rfl) ?_
      repeat (go_big_quiet_step (fail))
      refine wpQuiet_nil ?_
      intro w1 hb1
      go_wp2
      go_roundw
      case rel => exact ⟨k + 1, by omega, by go_num, hB.trans (hb1.mono hB.size)⟩
      case measure => simp [intOf]; omega
    · go_wp2
      go_ret
      exact ⟨rfl, hB⟩

/-- What Print gives. -/
def okTok (t : ZTok) : Bool := checkE t.kind t.text t.pos == 0
def printZ (l : List ZTok) : List UInt8 × Int :=
  if 2000 < l.length then ([], 3) else if l.all okTok = false then ([], 340)
  else if 20000 < (Lib.join (l.map (·.text)) [32]).length then ([], 3) else (Lib.join (l.map (·.text)) [32], 0)

theorem info_str : (Try.prog.info? 9).map (fun i => (i.zero, i.size, i.bytes)) = some (some (.string ⟨#[]⟩), 1, 16) := by kernel_rfl
theorem und_strs : Try.prog.underlying 33 = some (.slice 9) := by kernel_rfl

theorem join_le (xs : List (List UInt8)) (m : Nat) (h : ∀ x ∈ xs, x.length ≤ m) : (Lib.join xs [32]).length ≤ xs.length * (m + 1) := by
  cases xs with
  | nil => simp [Lib.join_nil]
  | cons x r =>
    rw [Lib.join_cons]
    have h1 : ∀ r : List (List UInt8), (∀ x ∈ r, x.length ≤ m) → (Lib.joinTail [32] r).length ≤ r.length * (m + 1) := by
      intro r hr
      induction r with
      | nil => simp [Lib.joinTail]
      | cons y r ih =>
        have e : Lib.joinTail [32] (y :: r) = [32] ++ y ++ Lib.joinTail [32] r := by simp [Lib.joinTail]
        have h2 := hr y List.mem_cons_self
        have h3 := ih (fun z hz => hr z (List.mem_cons_of_mem _ hz))
        rw [e]
        simp only [List.length_append, List.length_cons, List.length_nil, Nat.succ_mul]
        omega
    have h2 := h x List.mem_cons_self
    have h3 := h1 r (fun z hz => h z (List.mem_cons_of_mem _ hz))
    simp only [List.length_append, List.length_cons, Nat.succ_mul]
    omega

theorem all_step {l : List ZTok} {k : Nat} {t : ZTok} (ht : l[k]? = some t) (h : (l.take k).all okTok = true) (h1 : okTok t = true) : (l.take (k + 1)).all okTok = true := by
  obtain ⟨hlt, rfl⟩ := List.getElem?_eq_some_iff.1 ht
  rw [List.take_succ_eq_append_getElem hlt, List.all_append, h]
  simpa using h1
theorem all_no {l : List ZTok} {k : Nat} {t : ZTok} (ht : l[k]? = some t) (h1 : okTok t = false) : l.all okTok = false := by
  rw [List.all_eq_false]
  exact ⟨t, List.mem_of_getElem? ht, by simp [h1]⟩

def txts (l : List ZTok) : List Value := l.map fun t => .string (bytesOf t.text)
theorem txts_step {l : List ZTok} {k : Nat} {t : ZTok} (ht : l[k]? = some t) : txts (l.take (k + 1)) = txts (l.take k) ++ [.string (bytesOf t.text)] := by
  obtain ⟨hlt, rfl⟩ := List.getElem?_eq_some_iff.1 ht
  rw [txts, List.take_succ_eq_append_getElem hlt, List.map_append]; rfl

theorem join_any (w : World) (v : Value) (xs : List ByteArray) (sep : ByteArray) (hv : ListS Value.string w v xs) (hN : xs.length ≤ 1000000) (hlen : (Lib.join (xs.map (·.data.toList)) sep.data.toList).length ≤ 140737488355328) :
    Calls Try.prog 39 #[v, .string sep] w fun e w' => e = .returned (.string ⟨(Lib.join (xs.map (·.data.toList)) sep.data.toList).toArray⟩) ∧ Below w.heap.size w w' := by
  obtain ⟨p, c, rfl, h1, h2, h3⟩ := hv
  cases xs with
  | nil => exact (Try.strings_Join_none _ _ _ _).mono fun e w' ⟨he, hw⟩ => ⟨he, by rw [hw]; exact Below.refl _ _⟩
  | cons x r =>
    obtain ⟨b, o, rfl, hc⟩ := h3 (by simp)
    exact Try.strings_Join b o c (x :: r) sep w hc (cell_lt (hc 0 x rfl)) (by omega) h1 hlen

set_option maxRecDepth 100000 in
set_option maxHeartbeats 4000000 in
theorem print_any (w : World) (v : Value) (l : List ZTok) (hv : TokS w v l) (ht : ∀ t ∈ l, t.text.length ≤ 1000) :
    Calls Try.prog 23 #[v] w fun e w' => e = .returned (.tuple #[.string (bytesOf (printZ l).1), .int .i64 (printZ l).2]) ∧ Below w.heap.size w w' := by
  obtain ⟨pa, ca, rfl, ha1, ha1', ha2⟩ := hv
  have HA := Lib.hid ha2
  have HT := Lib.hid ht
  clear ha2 ht
  by_cases h2000 : 2000 < l.length
  · have HP : Hid (printZ l = ([], 3)) := Lib.hid (by unfold printZ; rw [if_pos h2000])
    have hd : decide (2000 < (l.length : Int)) = true := by simp; omega
    go_enter Try.func23, Try.ntmps23
    go_wp2
    go_ret2
    exact ⟨by rw [HP.out]; rfl, Below.refl _ _⟩
  · have hd : decide (2000 < (l.length : Int)) = false := by simp; omega
    go_enter Try.func23, Try.ntmps23
    go_wp2
    go_loopw [4, 13] (fun out i wr => ∃ k : Nat, k ≤ l.length ∧ i = .int .i64 k ∧ (l.take k).all okTok = true ∧ wr.ownsRow w.heap.size 9 1 out k (txts (l.take k)) ∧ Below w.heap.size w wr) (fun _ i _ => l.length - (intOf i).toNat)
    case atStart => exact ⟨0, Nat.zero_le _, rfl, by simp, World.ownsRow_nil _ _ _ _, Below.refl _ _⟩
    case round =>
      obtain ⟨k, hk, rfl, hall, hrow, hB⟩ := hrel
      have HALL := Lib.hid hall
      have HROW := Lib.hid hrow
      obtain ⟨pp, cap, rfl⟩ := ownsRow_form hrow
      clear hall hrow
      have hBs := hB.size
      by_cases hlt : k < l.length
      · have hne : l ≠ [] := by rintro rfl; simp at hlt
        obtain ⟨ba, oa, rfl, hca⟩ := HA.out hne
        obtain ⟨t, ht⟩ : ∃ t, l[k]? = some t := ⟨_, List.getElem?_eq_getElem hlt⟩
        obtain ⟨p0, p1, p2⟩ := hca k t ht
        have p0' := below_cell hB p0
        have p1' := below_cell hB p1
        have p2' := below_cell hB p2
        have hts : t.text.length ≤ 1000 := HT.out t (List.mem_of_getElem? ht)
        have htz : (bytesOf t.text).size ≤ 1000000 := by simp [bytesOf, ByteArray.size]; omega
        have HTK := Lib.hid ht
        have HB := Lib.hid hB
        clear hca ht hne p0 p1 p2 hB
        go_wp2_with fail
        refine (check_any _ _ _ _ htz).mono ?_
        rintro e w1 ⟨rfl, hb1⟩
        rw [list_bytesOf]
        have hbs1 := hb1.size
        simp only [World.size_alloc] at hbs1
        have HTB : Hid (w1.cell? ⟨wr.heap.size, 1, none⟩ = some (.string (bytesOf t.text))) := Lib.hid (below_cell hb1 (World.cell?_alloc_at (hn := rfl) ..))
        have HB1 : Hid (Below w.heap.size w w1) := Lib.hid ((HB.out.alloc HB.out.size _).trans (hb1.mono (by simp; omega)))
        have HR1 : Hid (w1.ownsRow w.heap.size 9 1 (.slice pp k cap) k (txts (l.take k))) := Lib.hid (ownsRow_below (HROW.out.alloc _) hb1)
        clear p0' p1' p2' hb1 HROW
        by_cases hc : checkE t.kind t.text t.pos = 0
        · have hd2 : (checkE t.kind t.text t.pos != 0) = false := by rw [hc]; rfl
          have HO : Hid (okTok t = true) := Lib.hid (by unfold okTok; rw [hc]; rfl)
          have t1 := HTB.out
          obtain ⟨i0, hi, hz0, hz1, hz2⟩ := info_parts info_str
          clear hc
          go_wp2_with (at_builtin; refine wpList_append_own _ rfl _ _ 33 rfl w.heap.size 9 i0 (.string ⟨#[]⟩) 1 16 und_strs hi hz0 hz1 hz2 rfl (by decide) _ _ _ rfl (HR1.out.alloc _) ⟨w1.heap.size, 0, none⟩ 1 1 [.string (bytesOf t.text)] rfl rfl (cells_new _ _ _) (by simp [Value.oneCell']) (by simp [maxLen]; omega) (by omega) (by simp; omega) ?_; intro v' w2 hown' hgrow _; obtain ⟨g', cap', rfl⟩ := ownsRow_succ hown'; have HO2 := Lib.hid hown'; have HG : Hid (Below w.heap.size w w2) := Lib.hid ((HB1.out.alloc HB1.out.size _).grown hgrow (Nat.le_trans HB1.out.size (by simp)) (fun b e => (HR1.out.lt b e).1)); clear hown' hgrow)
          go_roundw
          case rel => exact ⟨k + 1, by omega, by go_num, all_step HTK.out HALL.out HO.out, by rw [txts_step HTK.out]; exact HO2.out, HG.out⟩
          case measure => simp [intOf]; omega
        · have hd2 : (checkE t.kind t.text t.pos != 0) = true := by simpa using hc
          have HP : Hid (printZ l = ([], 340)) := Lib.hid (by
            unfold printZ
            rw [if_neg h2000, if_pos (all_no HTK.out (by unfold okTok; simpa using hc))])
          clear hc
          go_wp2
          go_ret2
          exact ⟨by rw [HP.out]; rfl, HB1.out⟩
      · obtain rfl : k = l.length := by omega
        have hjl := join_le (l.map (·.text)) 1000 (by intro x hx; obtain ⟨t, ht, rfl⟩ := List.mem_map.1 hx; exact HT.out t ht)
        have hjl2 : (Lib.join (l.map (·.text)) [32]).length ≤ 2002000 := by
          simp only [List.length_map] at hjl
          have : l.length * (1000 + 1) ≤ 2000 * 1001 := Nat.mul_le_mul (by omega) (Nat.le_refl _)
          omega
        have HP : Hid (printZ l = if 20000 < (Lib.join (l.map (·.text)) [32]).length then ([], 3) else (Lib.join (l.map (·.text)) [32], 0)) := Lib.hid (by
          have h := HALL.out
          rw [List.take_length] at h
          unfold printZ; rw [if_neg h2000, if_neg (by rw [h]; simp)])
        have HTL : Hid (txts (l.take l.length) = (l.map fun t => bytesOf t.text).map Value.string) := Lib.hid (by rw [List.take_length]; simp [txts])
        have HJ : Hid ((l.map fun t => bytesOf t.text).map (·.data.toList) = l.map (·.text)) := Lib.hid (by
          rw [List.map_map]; apply List.map_congr_left; intro t _; exact list_bytesOf _)
        clear hjl
        obtain ⟨js, hjs⟩ : ∃ x, Lib.join (l.map (·.text)) [32] = x := ⟨_, rfl⟩
        rw [hjs] at HP hjl2
        have HJS := Lib.hid hjs
        clear hjs
        have hL : ListS Value.string wr (.slice pp l.length cap) (l.map fun t => bytesOf t.text) := by
          have h := HROW.out
          rw [HTL.out] at h
          exact ListS.of_own (f := Value.string) (l := l.map fun t => bytesOf t.text) (by rw [List.length_map]; exact h)
        have HCALL := Lib.hid (join_any wr _ _ ⟨#[32]⟩ hL (by simp; omega) (by rw [HJ.out]; show (Lib.join _ [32]).length ≤ _; rw [HJS.out]; omega))
        rw [HJ.out, show (⟨#[32]⟩ : ByteArray).data.toList = [32] from rfl, HJS.out] at HCALL
        clear hL
        have hjz : ((⟨js.toArray⟩ : ByteArray).size : Int) = js.length := by simp [ByteArray.size]
        by_cases hbig : 20000 < js.length
        · have HP2 : Hid (printZ l = ([], 3)) := Lib.hid (by rw [HP.out, if_pos hbig])
          have hd3 : decide (20000 < ((⟨js.toArray⟩ : ByteArray).size : Int)) = true := by rw [hjz]; simp; omega
          clear hjz
          go_wp2_with fail
          refine HCALL.out.mono ?_
          rintro e w1 ⟨rfl, hb1⟩
          go_wp2
          go_ret2
          exact ⟨by rw [HP2.out]; rfl, hB.trans (hb1.mono hB.size)⟩
        · have HP2 : Hid (printZ l = (js, 0)) := Lib.hid (by rw [HP.out, if_neg hbig])
          have hd3 : decide (20000 < ((⟨js.toArray⟩ : ByteArray).size : Int)) = false := by rw [hjz]; simp; omega
          clear hjz
          go_wp2_with fail
          refine HCALL.out.mono ?_
          rintro e w1 ⟨rfl, hb1⟩
          go_wp2
          go_ret2
          exact ⟨by rw [HP2.out]; rfl, hB.trans (hb1.mono hB.size)⟩
end Go.Proofs.Ytigppjgmfonodaa
