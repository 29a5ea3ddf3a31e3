/- Slices of bytes of the call's own: string(b); Print of the reference; repeated. -/
import Derived.Test.YtigppjgmfonodaaLexU
import Derived.Lib.AppendStr
import Derived.Laws.BytesArg
namespace Go.Proofs.Ytigppjgmfonodaa
open Go.RowKit

def bCells (l : List UInt8) : List Value := l.map fun b => Value.int .u8 b.toNat
theorem strCells_bytesOf (l : List UInt8) : Lib.strCells (bytesOf l) = bCells l := by unfold Lib.strCells bCells; rw [list_bytesOf]
theorem strCells_b (s : ByteArray) : Lib.strCells s = bCells s.data.toList := rfl
theorem bCells_append (a b : List UInt8) : bCells (a ++ b) = bCells a ++ bCells b := by simp [bCells]

theorem und_bytes : Try.prog.underlying 24 = some (.slice 5) := by kernel_rfl
theorem und_u8 : Try.prog.underlying 5 = some (.int .u8) := by kernel_rfl
theorem und_str : Try.prog.underlying 9 = some .string := by kernel_rfl
theorem info_u8 : (Try.prog.info? 5).map (fun i => (i.zero, i.size, i.bytes)) = some (some (.int .u8 0), 1, 1) := by kernel_rfl

theorem conv_own {w : World} {base : Nat} {v : Value} {l : List UInt8} (h : w.ownsRow base 5 1 v l.length (bCells l)) : (convert 24 9 v).run Try.prog w = .ok (.string (bytesOf l)) w := by
  have hL := ListS.of_own (f := fun b : UInt8 => Value.int .u8 b.toNat) (l := l) h
  obtain ⟨p, c, rfl, h1, h2, h3⟩ := hL
  cases l with
  | nil =>
    rcases h.2 with ⟨e, _⟩ | ⟨g, cap, cur, e, _⟩
    · cases e
      exact Go.run_convert_bytes_nil w _ _ und_bytes und_u8 _ _ _ und_str
    · cases e
      exact Go.run_convert_bytes_arg w _ _ und_bytes und_u8 g 0 0 c [] rfl (fun i hi => absurd hi (by omega)) _ und_str
  | cons x r =>
    obtain ⟨b, o, rfl, hc⟩ := h3 (by simp)
    have := Go.run_convert_bytes_arg w _ _ und_bytes und_u8 b o (x :: r).length c ((x :: r).map fun b => (b.toNat : Int)) (by simp) (fun i hi => by
      rw [hc i ((x :: r)[i]) (List.getElem?_eq_getElem hi), List.getD, List.getElem?_map, List.getElem?_eq_getElem hi]; rfl) _ und_str
    refine this.trans ?_
    have e : strOfNums ((x :: r).map fun b => (b.toNat : Int)) = bytesOf (x :: r) := by
      unfold strOfNums bytesOf
      rw [List.map_map]
      have : (x :: r).map ((fun n : Int => UInt8.ofNat n.toNat) ∘ fun b : UInt8 => (b.toNat : Int)) = x :: r := by
        conv => rhs; rw [← List.map_id (x :: r)]
        apply List.map_congr_left
        intro b _
        simp
      rw [this]
    rw [e]

theorem join_snoc (xs : List (List UInt8)) (x sep : List UInt8) (h : xs ≠ []) : Lib.join (xs ++ [x]) sep = Lib.join xs sep ++ sep ++ x := by
  cases xs with
  | nil => exact absurd rfl h
  | cons y r => rw [List.cons_append, Lib.join_cons, Lib.join_cons]; simp [Lib.joinTail]

theorem heap_alloc_cell {w : World} {o : Obj} {a : Addr} {v : Value} (h : w.cell? a = some v) : (w.alloc o).cell? a = some v :=
  (World.cell?_alloc_lt _ _ _ (World.block_lt_of_cell? w a h)).trans h
/-- The text so far. -/
def jt (l : List ZTok) (k : Nat) : List UInt8 := Lib.join ((l.take k).map (·.text)) [32]
theorem jt_zero (l : List ZTok) : jt l 0 = [] := by simp [jt, Lib.join_nil]
theorem jt_one {l : List ZTok} {t : ZTok} (ht : l[0]? = some t) : jt l 1 = t.text := by
  cases l with
  | nil => simp at ht
  | cons x r => simp at ht; subst ht; simp [jt, Lib.join_one]
theorem jt_step {l : List ZTok} {k : Nat} {t : ZTok} (ht : l[k]? = some t) (hk : 0 < k) : jt l (k + 1) = jt l k ++ [32] ++ t.text := by
  obtain ⟨hlt, rfl⟩ := List.getElem?_eq_some_iff.1 ht
  unfold jt
  rw [List.take_succ_eq_append_getElem hlt, List.map_append, List.map_cons, List.map_nil, join_snoc]
  intro h
  have h1 : ((l.take k).map (·.text)).length = 0 := by rw [h]; rfl
  rw [List.length_map, List.length_take] at h1
  omega
theorem jt_le {l : List ZTok} (k : Nat) (h : ∀ t ∈ l, t.text.length ≤ 1000) : (jt l k).length ≤ k * 1001 := by
  have h1 := join_le ((l.take k).map (·.text)) 1000 (by intro x hx; obtain ⟨t, ht, rfl⟩ := List.mem_map.1 hx; exact h t (List.mem_of_mem_take ht))
  have h2 : ((l.take k).map (·.text)).length ≤ k := by simp; omega
  have h3 : ((l.take k).map (·.text)).length * (1000 + 1) ≤ k * 1001 := Nat.mul_le_mul h2 (Nat.le_refl _)
  exact Nat.le_trans h1 h3

set_option maxRecDepth 100000 in
set_option maxHeartbeats 4000000 in
theorem rprint_any (w : World) (v : Value) (l : List ZTok) (hv : TokS w v l) (ht : ∀ t ∈ l, t.text.length ≤ 1000) :
    Calls Try.prog 24 #[v] w fun e w' => e = .returned (.tuple #[.string (bytesOf (printZ l).1), .int .i64 (printZ l).2]) ∧ Below w.heap.size w w' := by
  obtain ⟨pa, ca, rfl, ha1, ha1', ha2⟩ := hv
  have HA := Lib.hid ha2
  have HT := Lib.hid ht
  clear ha2 ht
  by_cases h2000 : 2000 < l.length
  · have HP : Hid (printZ l = ([], 3)) := Lib.hid (by unfold printZ; rw [if_pos h2000])
    have hd : decide (2000 < (l.length : Int)) = true := by simp; omega
    go_enter Try.func24, Try.ntmps24
    go_wp2
    go_ret2
    exact ⟨by rw [HP.out]; rfl, Below.refl _ _⟩
  · have hd : decide (2000 < (l.length : Int)) = false := by simp; omega
    go_enter Try.func24, Try.ntmps24
    go_wp2
    go_loopw [4, 5] (fun out i wr => ∃ k : Nat, k ≤ l.length ∧ i = .int .i64 k ∧ (l.take k).all okTok = true ∧ wr.ownsRow w.heap.size 5 1 out (jt l k).length (bCells (jt l k)) ∧ Below w.heap.size w wr) (fun _ i _ => l.length - (intOf i).toNat)
    case atStart => exact ⟨0, Nat.zero_le _, rfl, by simp, by rw [jt_zero]; exact World.ownsRow_nil _ _ _ _, Below.refl _ _⟩
    case round =>
      obtain ⟨k, hk, rfl, hall, hrow, hB⟩ := hrel
      have HALL := Lib.hid hall
      have HROW := Lib.hid hrow
      have hjl := jt_le (l := l) k HT.out
      obtain ⟨j, hj⟩ : ∃ x, jt l k = x := ⟨_, rfl⟩
      rw [hj] at HROW hjl hrow
      obtain ⟨pp, cap, rfl⟩ := ownsRow_form hrow
      have HJ := Lib.hid hj
      clear hall hrow hj
      have hBs := hB.size
      by_cases hlt : k < l.length
      · have hne : l ≠ [] := by rintro rfl; simp at hlt
        obtain ⟨ba, oa, rfl, hca⟩ := HA.out hne
        obtain ⟨t, ht⟩ : ∃ t, l[k]? = some t := ⟨_, List.getElem?_eq_getElem hlt⟩
        obtain ⟨p0, p1, p2⟩ := hca k t ht
        have p0' := below_cell hB p0
        have p1' := below_cell hB p1
        have p2' := below_cell hB p2
        have hba := cell_lt p1
        have hts : t.text.length ≤ 1000 := HT.out t (List.mem_of_getElem? ht)
        have htz : (bytesOf t.text).size ≤ 1000 := by simp [bytesOf, ByteArray.size]; omega
        have HTK := Lib.hid ht
        have HB := Lib.hid hB
        clear hca ht hne p0 p1 p2 hB
        go_wp2_with fail
        refine (rcheck_any _ _ _ _ (by omega)).mono ?_
        rintro e w1 ⟨rfl, hb1⟩
        rw [list_bytesOf]
        have hbs1 := hb1.size
        have q1 := below_cell hb1 p1'
        have HB1 := Lib.hid (HB.out.trans (hb1.mono HB.out.size))
        have HR1 := Lib.hid (ownsRow_below HROW.out hb1)
        clear p0' p1' p2' hb1 HROW HB
        by_cases hc : checkE t.kind t.text t.pos = 0
        · have hd2 : (checkE t.kind t.text t.pos != 0) = false := by rw [hc]; rfl
          have HO : Hid (okTok t = true) := Lib.hid (by unfold okTok; rw [hc]; rfl)
          obtain ⟨i0, hi, hz0, hz1, hz2⟩ := info_parts info_u8
          have hbn : j.length ≤ 3000000 := by have : k * 1001 ≤ 2000 * 1001 := Nat.mul_le_mul (by omega) (Nat.le_refl _); omega
          clear hc
          by_cases hk0 : k = 0
          · subst hk0
            have hd3 : decide ((0 : Int) < ((0 : Nat) : Int)) = false := rfl
            go_wp2_with (at_builtin; refine Lib.wpList_append_own_string _ rfl _ _ 24 9 rfl w.heap.size 5 i0 und_bytes und_str hi hz0 hz1 hz2 _ _ _ rfl HR1.out _ rfl (by simp [maxLen]; omega) (by omega) (by omega) ?_; intro v' w2 hown' hgrow _; have HO2 := Lib.hid hown'; have HG : Hid (Below w.heap.size w w2) := Lib.hid (HB1.out.grown hgrow HB1.out.size (fun b e => (HR1.out.lt b e).1)); clear hown' hgrow)
            go_roundw
            case rel =>
              refine ⟨1, by omega, by go_num, all_step HTK.out HALL.out HO.out, ?_, HG.out⟩
              have h := HO2.out
              rw [← HJ.out, jt_zero, strCells_bytesOf] at h
              rw [jt_one HTK.out]
              simpa [bytesOf, ByteArray.size, bCells] using h
            case measure => simp [intOf]; omega
          · have hd3 : decide ((0 : Int) < (k : Int)) = true := by simp; omega
            have hkp : 0 < k := by omega
            have HC := Lib.hid (cells_new w1 [.int .u8 32] 5)
            go_wp2_with (first | (at_builtin; refine wpList_append_own _ rfl _ _ 24 rfl w.heap.size 5 i0 (.int .u8 0) 1 1 und_bytes hi hz0 hz1 hz2 rfl (by decide) _ _ _ rfl (HR1.out.alloc _) ⟨w1.heap.size, 0, none⟩ 1 1 [.int .u8 32] rfl rfl HC.out (by simp [Value.oneCell']) (by simp [maxLen]; omega) (by omega) (by simp; omega) ?_; intro v' w2 hown' hgrow _; obtain ⟨g', cap', rfl⟩ := ownsRow_succ hown'; have HO2 := Lib.hid hown'; have HG : Hid (Below w.heap.size w w2) := Lib.hid ((HB1.out.alloc HB1.out.size _).grown hgrow (Nat.le_trans HB1.out.size (by simp)) (fun b e => (HR1.out.lt b e).1)); have q2 : w2.cell? ⟨ba, oa + k * 3 + 1, none⟩ = some (.string (bytesOf t.text)) := hgrow.cell (heap_alloc_cell q1) (fun e => by have := (HR1.out.lt ba e.symm).1; omega); have hs2 := HG.out.size; clear hown' hgrow) | (at_builtin; refine Lib.wpList_append_own_string _ rfl _ _ 24 9 rfl w.heap.size 5 i0 und_bytes und_str hi hz0 hz1 hz2 _ _ _ rfl HO2.out _ rfl (by simp [maxLen]; omega) (by omega) (by omega) ?_; intro v' w3 hown' hgrow _; have HO3 := Lib.hid hown'; have HG3 : Hid (Below w.heap.size w w3) := Lib.hid (HG.out.grown hgrow HG.out.size (fun b e => (HO2.out.lt b e).1)); clear hown' hgrow))
            go_roundw
            case rel =>
              refine ⟨k + 1, by omega, by go_num, all_step HTK.out HALL.out HO.out, ?_, HG3.out⟩
              have h := HO3.out
              rw [strCells_bytesOf] at h
              rw [jt_step HTK.out hkp, HJ.out, bCells_append, bCells_append]
              have el : (j ++ [32] ++ t.text).length = j.length + 1 + (bytesOf t.text).size := by simp [bytesOf, ByteArray.size]; omega
              rw [el]
              exact h
            case measure => simp [intOf]; omega
        · have hd2 : (checkE t.kind t.text t.pos != 0) = true := by simpa using hc
          have HP : Hid (printZ l = ([], 340)) := Lib.hid (by
            unfold printZ
            rw [if_neg h2000, if_pos (all_no HTK.out (by unfold okTok; simpa using hc))])
          clear hc
          go_wp2
          go_ret2
          exact ⟨by rw [HP.out]; rfl, HB1.out⟩
      · obtain rfl : k = l.length := by omega
        have HP : Hid (printZ l = if 20000 < j.length then ([], 3) else (j, 0)) := Lib.hid (by
          have h := HALL.out
          rw [List.take_length] at h
          unfold printZ; rw [if_neg h2000, if_neg (by rw [h]; simp), ← HJ.out]
          unfold jt; rw [List.take_length])
        have hcv := conv_own HROW.out
        by_cases hbig : 20000 < j.length
        · have HP2 : Hid (printZ l = ([], 3)) := Lib.hid (by rw [HP.out, if_pos hbig])
          have hd3 : decide (20000 < (j.length : Int)) = true := by simp; omega
          clear hcv
          go_wp2
          go_ret2
          exact ⟨by rw [HP2.out]; rfl, hB⟩
        · have HP2 : Hid (printZ l = (j, 0)) := Lib.hid (by rw [HP.out, if_neg hbig])
          have hd3 : decide (20000 < (j.length : Int)) = false := by simp; omega
          go_wp2
          go_ret2
          exact ⟨by rw [HP2.out]; rfl, hB⟩
end Go.Proofs.Ytigppjgmfonodaa
