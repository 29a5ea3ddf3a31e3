/- A part of the proof of ExprChecks: texts of this claim, merged. -/
import Derived.Test.YtiledamgmppcmaaGreatDoorRows
import Derived.WalkKit
import Derived.ProofKit
import Derived.OpenShut
import Derived.Below
import Derived.Lay
import Derived.MakeChecks
import Derived.Test.YtiledamgmppcmaaGreatDoorZExprChecks6
/-! EvB -/
namespace Go.Proofs.YtiledamgmppcmaaGreatDoor
open Go.RowKit
def rightAt (vars : List ByteArray) (vals : List Int) (i : Nat) : Bool := !memS (vars.take i) (vars.getD i ⟨#[]⟩) && decide (-9999 ≤ vals.getD i 0) && decide (vals.getD i 0 ≤ 9999)
def rightV (vars : List ByteArray) (vals : List Int) : Bool := (List.range vars.length).all (rightAt vars vals)
theorem range_step {p : Nat → Bool} {n : Nat} (h : (List.range n).all p = true) (hn : p n = true) : (List.range (n + 1)).all p = true := by
  rw [List.range_succ, List.all_append, h]; simp [hn]
theorem range_stop {p : Nat → Bool} {n i : Nat} (hi : i < n) (h : p i = false) : (List.range n).all p = false := by
  rw [List.all_eq_false]; exact ⟨i, List.mem_range.2 hi, by rw [h]; simp⟩
theorem strE_get {l : List ByteArray} {i : Nat} (h : i < l.length) : (l.map strE)[((i : Nat) : Int).toNat]? = some (strE (l.getD i ⟨#[]⟩)) := by
  rw [Int.toNat_natCast, List.getElem?_map, List.getD_eq_getElem?_getD, List.getElem?_eq_getElem h]; rfl
theorem intE_get {l : List Int} {i : Nat} (h : i < l.length) : (l.map fun n => [DV.v (.int .i64 n)])[((i : Nat) : Int).toNat]? = some [DV.v (.int .i64 (l.getD i 0))] := by
  rw [Int.toNat_natCast, List.getElem?_map, List.getD_eq_getElem?_getD, List.getElem?_eq_getElem h]; rfl
theorem coe_eq {S : PS} {p q : PV} (h : p = q) : Coe S p q := h ▸ coe_refl _
@[reducible] def valsP (vars : List ByteArray) (vals : List Int) : PV := .agg [strsP vars, intsP vals]
theorem vright_do (vars : List ByteArray) (vals : List Int) (hl : vars.length = vals.length) : Does 74 [valsP vars vals] ⟨[], []⟩ (.ret (boolP (rightV vars vals))) ⟨[], []⟩ := by
  refine does_bodyf Tryz.func74 rfl rfl (Nat.le_of_ble_eq_true rfl) rfl (Nat.le_refl _) ?_
  intro hf
  have hlen : vars.length ≤ 9223372036854775807 := by have := hf.1.1; simpa [fitP] using this
  repeat' (first | refine q1 ?_ | refine q2 ?_ | refine wk_nil ?_ | refine wa_nil ?_ | refine pw_seq ?_ | refine pw_region ?_ | refine pw_block ?_ | refine pw_skip ?_ | refine pw_ret ?_ | refine pw_exit ?_ | refine q3 ?_ | refine q4 ?_ | refine q5 ?_ | refine q6 ?_ | refine q7 ?_ | refine q8 ?_ | refine q17 (fun h => ?_) (fun h => ?_) | refine q18 (fun h => ?_) (fun h => ?_) | refine q9 ?_ | refine q10 ?_ | refine q11 ?_ | refine q12 ?_ | refine q13 ?_ | refine q14 ?_ | refine q15 ?_ | refine q16 (fun h => ?_) (fun h => ?_) | fail)
  refine pw_loop (ι := Nat) (ok := fun i => i ≤ vars.length ∧ (List.range i).all (rightAt vars vals) = true) (L := fun i => [(1, .ptr 0 0), (6, strsP vars), (7, intP (vars.map strE).length), (8, intP i)]) (Sx := fun _ => ⟨[[strsP vars, intsP vals]], []⟩) (μ := fun i => vars.length - i) 0 ⟨Nat.zero_le _, rfl⟩ (by repeat (first | exact frle_nil | refine frle_cons rfl ?_)) rfl ?_
  rintro i ⟨hi, hm⟩
  repeat' (first | refine q1 ?_ | refine q2 ?_ | refine wk_nil ?_ | refine wa_nil ?_ | refine pw_seq ?_ | refine pw_region ?_ | refine pw_block ?_ | refine pw_skip ?_ | refine pw_ret ?_ | refine pw_exit ?_ | refine q3 ?_ | refine q4 ?_ | refine q5 ?_ | refine q6 ?_ | refine q7 ?_ | refine q8 ?_ | refine q17 (fun h => ?_) (fun h => ?_) | refine q18 (fun h => ?_) (fun h => ?_) | refine q9 ?_ | refine q10 ?_ | refine q11 ?_ | refine q12 ?_ | refine q13 ?_ | refine q14 ?_ | refine q15 ?_ | refine q16 (fun h => ?_) (fun h => ?_) | fail)
  · have hlt : i < vars.length := by simpa using h
    refine wix _ rfl rfl rfl rfl rfl (strE_get hlt) (by omega) ?_
    repeat' (first | refine q1 ?_ | refine q2 ?_ | refine wk_nil ?_ | refine wa_nil ?_ | refine pw_seq ?_ | refine pw_region ?_ | refine pw_block ?_ | refine pw_skip ?_ | refine pw_ret ?_ | refine pw_exit ?_ | refine q3 ?_ | refine q4 ?_ | refine q5 ?_ | refine q6 ?_ | refine q7 ?_ | refine q8 ?_ | refine q17 (fun h => ?_) (fun h => ?_) | refine q18 (fun h => ?_) (fun h => ?_) | refine q9 ?_ | refine q10 ?_ | refine q11 ?_ | refine q12 ?_ | refine q13 ?_ | refine q14 ?_ | refine q15 ?_ | refine q16 (fun h => ?_) (fun h => ?_) | fail)
    refine wst rfl rfl ⟨by omega, by omega, by simp; omega⟩ ?_
    repeat' (first | refine q1 ?_ | refine q2 ?_ | refine wk_nil ?_ | refine wa_nil ?_ | refine pw_seq ?_ | refine pw_region ?_ | refine pw_block ?_ | refine pw_skip ?_ | refine pw_ret ?_ | refine pw_exit ?_ | refine q3 ?_ | refine q4 ?_ | refine q5 ?_ | refine q6 ?_ | refine q7 ?_ | refine q8 ?_ | refine q17 (fun h => ?_) (fun h => ?_) | refine q18 (fun h => ?_) (fun h => ?_) | refine q9 ?_ | refine q10 ?_ | refine q11 ?_ | refine q12 ?_ | refine q13 ?_ | refine q14 ?_ | refine q15 ?_ | refine q16 (fun h => ?_) (fun h => ?_) | fail)
    have e : ((vars.map strE).take ((i : Int)).toNat).drop (0 : Int).toNat = (vars.take i).map strE := by simp [List.map_take]
    refine wcp' (contains_do (vars.take i) (vars.getD i ⟨#[]⟩)) rfl rfl rfl rfl rfl (coeL_cons (coe_eq (congrArg (fun z => PV.d (DV.sl 1 z)) e)) (by repeat (first | exact coeL_nil | refine coeL_cons (coe_refl _) ?_))) ?_
    repeat' (first | refine q1 ?_ | refine q2 ?_ | refine wk_nil ?_ | refine wa_nil ?_ | refine pw_seq ?_ | refine pw_region ?_ | refine pw_block ?_ | refine pw_skip ?_ | refine pw_ret ?_ | refine pw_exit ?_ | refine q3 ?_ | refine q4 ?_ | refine q5 ?_ | refine q6 ?_ | refine q7 ?_ | refine q8 ?_ | refine q17 (fun h => ?_) (fun h => ?_) | refine q18 (fun h => ?_) (fun h => ?_) | refine q9 ?_ | refine q10 ?_ | refine q11 ?_ | refine q12 ?_ | refine q13 ?_ | refine q14 ?_ | refine q15 ?_ | refine q16 (fun h => ?_) (fun h => ?_) | fail)
    · rw [show rightV vars vals = false from range_stop hlt (by unfold rightAt; rw [h]; rfl)]
    have hm2 := h
    refine wix _ rfl rfl rfl rfl rfl (intE_get (l := vals) (by omega)) (by omega) ?_
    repeat' (first | refine q1 ?_ | refine q2 ?_ | refine wk_nil ?_ | refine wa_nil ?_ | refine pw_seq ?_ | refine pw_region ?_ | refine pw_block ?_ | refine pw_skip ?_ | refine pw_ret ?_ | refine pw_exit ?_ | refine q3 ?_ | refine q4 ?_ | refine q5 ?_ | refine q6 ?_ | refine q7 ?_ | refine q8 ?_ | refine q17 (fun h => ?_) (fun h => ?_) | refine q18 (fun h => ?_) (fun h => ?_) | refine q9 ?_ | refine q10 ?_ | refine q11 ?_ | refine q12 ?_ | refine q13 ?_ | refine q14 ?_ | refine q15 ?_ | refine q16 (fun h => ?_) (fun h => ?_) | fail)
    · rw [show rightV vars vals = false from range_stop hlt (by unfold rightAt; rw [show decide (-9999 ≤ vals.getD i 0) = false by simp at h ⊢; omega]; simp)]
    have hm3 := h
    refine wix _ rfl rfl rfl rfl rfl (intE_get (l := vals) (by omega)) (by omega) ?_
    repeat' (first | refine q1 ?_ | refine q2 ?_ | refine wk_nil ?_ | refine wa_nil ?_ | refine pw_seq ?_ | refine pw_region ?_ | refine pw_block ?_ | refine pw_skip ?_ | refine pw_ret ?_ | refine pw_exit ?_ | refine q3 ?_ | refine q4 ?_ | refine q5 ?_ | refine q6 ?_ | refine q7 ?_ | refine q8 ?_ | refine q17 (fun h => ?_) (fun h => ?_) | refine q18 (fun h => ?_) (fun h => ?_) | refine q9 ?_ | refine q10 ?_ | refine q11 ?_ | refine q12 ?_ | refine q13 ?_ | refine q14 ?_ | refine q15 ?_ | refine q16 (fun h => ?_) (fun h => ?_) | fail)
    · rw [show rightV vars vals = false from range_stop hlt (by unfold rightAt; rw [show decide (vals.getD i 0 ≤ 9999) = false by simp at h ⊢; omega]; simp)]
    · refine ⟨i + 1, ⟨by omega, range_step hm ?_⟩, by omega, (by repeat (first | exact frle_nil | refine frle_cons rfl ?_)), rfl⟩
      unfold rightAt
      rw [hm2]
      simp at hm3 h ⊢
      omega
  · obtain rfl : i = vars.length := by simp at h; omega
    rw [show rightV vars vals = true from hm]
def divV : Value := .iface 131 (.agg #[])
theorem assertD_nil (w : World) : (Instr.typeAssert .nilIface 20 131 true).run Tryz.prog w = .ok (.tuple #[.agg #[], .bool false]) w := by kernel_rfl
theorem assertD_mal (w : World) : (Instr.typeAssert divV 20 131 true).run Tryz.prog w = .ok (.tuple #[.agg #[], .bool true]) w := by kernel_rfl
@[reducible] def vlP (t : Int) (s : ByteArray) (y : Bool) : PV := .agg [intP t, strP s, boolP y]
@[reducible] def resC (na : Bool) (n : List Int) (nb : Bool) (d : List Int) (y : Bool) : List PV := [boolP na, limP n, boolP nb, limP d, boolP y]
@[reducible] def evS (x : Ex) (vc : List PV) (er : PV) (vars : List ByteArray) (vals : List Int) : PS := ⟨[(exP x).parts, vc, [er], [strsP vars, intsP vals]], []⟩
@[reducible] def evS1 (x : Ex) (vc : List PV) (er : PV) (vars : List ByteArray) (vals : List Int) (r : List PV) : PS := ⟨[(exP x).parts, vc, [er], [strsP vars, intsP vals], r], []⟩
theorem edef_none (x : Ex) (c0 c1 c2 er : DV) (vars : List ByteArray) (vals : List Int) (na nb y : Bool) (n d : List Int) : EvD Tryz.prog 75 [.ptr 1 0, .ptr 2 0] (evS1 x [.d c0, .d c1, .d c2] (.d er) vars vals (resC na n nb d y)) none (evS1 x [.d c0, .d c1, .d c2] (.d er) vars vals (resC na n nb d y)) := by
  refine evd_body Tryz.func75 rfl rfl (fun _ _ => rfl) rfl (Nat.le_of_ble_eq_true rfl) (by simp) rfl (Nat.le_refl _) ?_
  refine wk_op rfl (op_assert rfl rfl assertD_nil (by kernel_rfl)) ?_
  repeat' (first | refine q1 ?_ | refine q2 ?_ | refine wk_nil ?_ | refine wa_nil ?_ | refine pw_seq ?_ | refine pw_region ?_ | refine pw_block ?_ | refine pw_skip ?_ | refine pw_ret ?_ | refine pw_exit ?_ | refine q3 ?_ | refine q4 ?_ | refine q5 ?_ | refine q6 ?_ | refine q7 ?_ | refine q8 ?_ | refine q17 (fun h => ?_) (fun h => ?_) | refine q18 (fun h => ?_) (fun h => ?_) | refine q9 ?_ | refine q10 ?_ | refine q11 ?_ | refine q12 ?_ | refine q13 ?_ | refine q14 ?_ | refine q15 ?_ | refine q16 (fun h => ?_) (fun h => ?_) | fail)
  rfl
theorem edef_div (x : Ex) (c0 c1 c2 er : DV) (vars : List ByteArray) (vals : List Int) : EvD Tryz.prog 75 [.ptr 1 0, .ptr 2 0] (evS x [.d c0, .d c1, .d c2] (.d er) vars vals) (some divV) (evS x [intP 0, strP ⟨#[]⟩, boolP false] (intP 2) vars vals) := by
  refine evd_body Tryz.func75 rfl rfl (fun _ _ => rfl) rfl (Nat.le_of_ble_eq_true rfl) (fun c e => by cases e; rfl) rfl (Nat.le_refl _) ?_
  refine wk_op rfl (op_assert rfl rfl assertD_mal (by kernel_rfl)) ?_
  repeat' (first | refine q1 ?_ | refine q2 ?_ | refine wk_nil ?_ | refine wa_nil ?_ | refine pw_seq ?_ | refine pw_region ?_ | refine pw_block ?_ | refine pw_skip ?_ | refine pw_ret ?_ | refine pw_exit ?_ | refine q3 ?_ | refine q4 ?_ | refine q5 ?_ | refine q6 ?_ | refine q7 ?_ | refine q8 ?_ | refine q17 (fun h => ?_) (fun h => ?_) | refine q18 (fun h => ?_) (fun h => ?_) | refine q9 ?_ | refine q10 ?_ | refine q11 ?_ | refine q12 ?_ | refine q13 ?_ | refine q14 ?_ | refine q15 ?_ | refine q16 (fun h => ?_) (fun h => ?_) | fail)
  rfl
theorem eval_args (x : Ex) (vars : List ByteArray) (vals : List Int) (hs : x.small) (hc : checkX x = 0) (h0 : vars.length ≠ vals.length ∨ rightV vars vals = false) : Does 33 [exP x, strsP vars, intsP vals] ⟨[], []⟩ (.ret (.tup [vlP 0 ⟨#[]⟩ false, intP 2])) ⟨[], []⟩ := by
  have hchk := check_do x hs
  rw [hc] at hchk
  refine ⟨enters_of Tryz.func33 rfl rfl, ev_bodyD ent_of Tryz.func33 rfl (Nat.le_of_ble_eq_true rfl) rfl (Nat.le_refl _) ?_⟩
  refine pd_seq (pd_pw ?_)
  repeat' (first | refine q1 ?_ | refine q2 ?_ | refine wk_nil ?_ | refine wa_nil ?_ | refine pw_seq ?_ | refine pw_region ?_ | refine pw_block ?_ | refine pw_skip ?_ | refine pw_ret ?_ | refine pw_exit ?_ | refine q3 ?_ | refine q4 ?_ | refine q5 ?_ | refine q6 ?_ | refine q7 ?_ | refine q8 ?_ | refine q17 (fun h => ?_) (fun h => ?_) | refine q18 (fun h => ?_) (fun h => ?_) | refine q9 ?_ | refine q10 ?_ | refine q11 ?_ | refine q12 ?_ | refine q13 ?_ | refine q14 ?_ | refine q15 ?_ | refine q16 (fun h => ?_) (fun h => ?_) | fail)
  refine pd_seq (pd_pw ?_)
  repeat' (first | refine q1 ?_ | refine q2 ?_ | refine wk_nil ?_ | refine wa_nil ?_ | refine pw_seq ?_ | refine pw_region ?_ | refine pw_block ?_ | refine pw_skip ?_ | refine pw_ret ?_ | refine pw_exit ?_ | refine q3 ?_ | refine q4 ?_ | refine q5 ?_ | refine q6 ?_ | refine q7 ?_ | refine q8 ?_ | refine q17 (fun h => ?_) (fun h => ?_) | refine q18 (fun h => ?_) (fun h => ?_) | refine q9 ?_ | refine q10 ?_ | refine q11 ?_ | refine q12 ?_ | refine q13 ?_ | refine q14 ?_ | refine q15 ?_ | refine q16 (fun h => ?_) (fun h => ?_) | fail)
  refine wcp' hchk rfl rfl rfl rfl rfl (by repeat (first | exact coeL_nil | refine coeL_cons (coe_refl _) ?_)) ?_
  repeat' (first | refine q1 ?_ | refine q2 ?_ | refine wk_nil ?_ | refine wa_nil ?_ | refine pw_seq ?_ | refine pw_region ?_ | refine pw_block ?_ | refine pw_skip ?_ | refine pw_ret ?_ | refine pw_exit ?_ | refine q3 ?_ | refine q4 ?_ | refine q5 ?_ | refine q6 ?_ | refine q7 ?_ | refine q8 ?_ | refine q17 (fun h => ?_) (fun h => ?_) | refine q18 (fun h => ?_) (fun h => ?_) | refine q9 ?_ | refine q10 ?_ | refine q11 ?_ | refine q12 ?_ | refine q13 ?_ | refine q14 ?_ | refine q15 ?_ | refine q16 (fun h => ?_) (fun h => ?_) | fail)
  refine pd_seq (pd_pw ?_)
  repeat' (first | refine q1 ?_ | refine q2 ?_ | refine wk_nil ?_ | refine wa_nil ?_ | refine pw_seq ?_ | refine pw_region ?_ | refine pw_block ?_ | refine pw_skip ?_ | refine pw_ret ?_ | refine pw_exit ?_ | refine q3 ?_ | refine q4 ?_ | refine q5 ?_ | refine q6 ?_ | refine q7 ?_ | refine q8 ?_ | refine q17 (fun h => ?_) (fun h => ?_) | refine q18 (fun h => ?_) (fun h => ?_) | refine q9 ?_ | refine q10 ?_ | refine q11 ?_ | refine q12 ?_ | refine q13 ?_ | refine q14 ?_ | refine q15 ?_ | refine q16 (fun h => ?_) (fun h => ?_) | fail)
  refine pd_seq (pd_pw ?_)
  repeat' (first | refine q1 ?_ | refine q2 ?_ | refine wk_nil ?_ | refine wa_nil ?_ | refine pw_seq ?_ | refine pw_region ?_ | refine pw_block ?_ | refine pw_skip ?_ | refine pw_ret ?_ | refine pw_exit ?_ | refine q3 ?_ | refine q4 ?_ | refine q5 ?_ | refine q6 ?_ | refine q7 ?_ | refine q8 ?_ | refine q17 (fun h => ?_) (fun h => ?_) | refine q18 (fun h => ?_) (fun h => ?_) | refine q9 ?_ | refine q10 ?_ | refine q11 ?_ | refine q12 ?_ | refine q13 ?_ | refine q14 ?_ | refine q15 ?_ | refine q16 (fun h => ?_) (fun h => ?_) | fail)
  · exact ⟨none, .inl ⟨rfl, .inr rfl⟩, _, rfl, rfl, rfl, .inr rfl, _, resPs_ok rfl, rfl, rfl⟩
  have hl : vars.length = vals.length := by simp at h; omega
  rcases h0 with h0 | h0
  · exact absurd hl h0
  have hr := vright_do vars vals hl
  rw [h0] at hr
  refine wcp' hr rfl rfl rfl rfl rfl (by repeat (first | exact coeL_nil | refine coeL_cons (coe_refl _) ?_)) ?_
  repeat' (first | refine q1 ?_ | refine q2 ?_ | refine wk_nil ?_ | refine wa_nil ?_ | refine pw_seq ?_ | refine pw_region ?_ | refine pw_block ?_ | refine pw_skip ?_ | refine pw_ret ?_ | refine pw_exit ?_ | refine q3 ?_ | refine q4 ?_ | refine q5 ?_ | refine q6 ?_ | refine q7 ?_ | refine q8 ?_ | refine q17 (fun h => ?_) (fun h => ?_) | refine q18 (fun h => ?_) (fun h => ?_) | refine q9 ?_ | refine q10 ?_ | refine q11 ?_ | refine q12 ?_ | refine q13 ?_ | refine q14 ?_ | refine q15 ?_ | refine q16 (fun h => ?_) (fun h => ?_) | fail)
  exact ⟨none, .inl ⟨rfl, .inr rfl⟩, _, rfl, rfl, rfl, .inr rfl, _, resPs_ok rfl, rfl, rfl⟩
theorem fits_of {x : Ex} (h : checkX x = 0) : x.fits = true := vis_fits x 60 1 ((valid_check x).1 h)
theorem eval_type (x : Ex) (vars : List ByteArray) (vals : List Int) (hs : x.small) (hc : checkX x = 0) (hl : vars.length = vals.length) (h0 : rightV vars vals = true) (hk : kindX vars x = 0) : Does 33 [exP x, strsP vars, intsP vals] ⟨[], []⟩ (.ret (.tup [vlP 0 ⟨#[]⟩ false, intP 351])) ⟨[], []⟩ := by
  have hchk := check_do x hs
  have ht := typed_do vars _ x (Nat.le_refl _) (fits_of hc)
  rw [hk] at ht
  rw [hc] at hchk
  refine ⟨enters_of Tryz.func33 rfl rfl, ev_bodyD ent_of Tryz.func33 rfl (Nat.le_of_ble_eq_true rfl) rfl (Nat.le_refl _) ?_⟩
  refine pd_seq (pd_pw ?_)
  repeat' (first | refine q1 ?_ | refine q2 ?_ | refine wk_nil ?_ | refine wa_nil ?_ | refine pw_seq ?_ | refine pw_region ?_ | refine pw_block ?_ | refine pw_skip ?_ | refine pw_ret ?_ | refine pw_exit ?_ | refine q3 ?_ | refine q4 ?_ | refine q5 ?_ | refine q6 ?_ | refine q7 ?_ | refine q8 ?_ | refine q17 (fun h => ?_) (fun h => ?_) | refine q18 (fun h => ?_) (fun h => ?_) | refine q9 ?_ | refine q10 ?_ | refine q11 ?_ | refine q12 ?_ | refine q13 ?_ | refine q14 ?_ | refine q15 ?_ | refine q16 (fun h => ?_) (fun h => ?_) | fail)
  refine pd_seq (pd_pw ?_)
  repeat' (first | refine q1 ?_ | refine q2 ?_ | refine wk_nil ?_ | refine wa_nil ?_ | refine pw_seq ?_ | refine pw_region ?_ | refine pw_block ?_ | refine pw_skip ?_ | refine pw_ret ?_ | refine pw_exit ?_ | refine q3 ?_ | refine q4 ?_ | refine q5 ?_ | refine q6 ?_ | refine q7 ?_ | refine q8 ?_ | refine q17 (fun h => ?_) (fun h => ?_) | refine q18 (fun h => ?_) (fun h => ?_) | refine q9 ?_ | refine q10 ?_ | refine q11 ?_ | refine q12 ?_ | refine q13 ?_ | refine q14 ?_ | refine q15 ?_ | refine q16 (fun h => ?_) (fun h => ?_) | fail)
  refine wcp' hchk rfl rfl rfl rfl rfl (by repeat (first | exact coeL_nil | refine coeL_cons (coe_refl _) ?_)) ?_
  repeat' (first | refine q1 ?_ | refine q2 ?_ | refine wk_nil ?_ | refine wa_nil ?_ | refine pw_seq ?_ | refine pw_region ?_ | refine pw_block ?_ | refine pw_skip ?_ | refine pw_ret ?_ | refine pw_exit ?_ | refine q3 ?_ | refine q4 ?_ | refine q5 ?_ | refine q6 ?_ | refine q7 ?_ | refine q8 ?_ | refine q17 (fun h => ?_) (fun h => ?_) | refine q18 (fun h => ?_) (fun h => ?_) | refine q9 ?_ | refine q10 ?_ | refine q11 ?_ | refine q12 ?_ | refine q13 ?_ | refine q14 ?_ | refine q15 ?_ | refine q16 (fun h => ?_) (fun h => ?_) | fail)
  refine pd_seq (pd_pw ?_)
  repeat' (first | refine q1 ?_ | refine q2 ?_ | refine wk_nil ?_ | refine wa_nil ?_ | refine pw_seq ?_ | refine pw_region ?_ | refine pw_block ?_ | refine pw_skip ?_ | refine pw_ret ?_ | refine pw_exit ?_ | refine q3 ?_ | refine q4 ?_ | refine q5 ?_ | refine q6 ?_ | refine q7 ?_ | refine q8 ?_ | refine q17 (fun h => ?_) (fun h => ?_) | refine q18 (fun h => ?_) (fun h => ?_) | refine q9 ?_ | refine q10 ?_ | refine q11 ?_ | refine q12 ?_ | refine q13 ?_ | refine q14 ?_ | refine q15 ?_ | refine q16 (fun h => ?_) (fun h => ?_) | fail)
  refine pd_seq (pd_pw ?_)
  repeat' (first | refine q1 ?_ | refine q2 ?_ | refine wk_nil ?_ | refine wa_nil ?_ | refine pw_seq ?_ | refine pw_region ?_ | refine pw_block ?_ | refine pw_skip ?_ | refine pw_ret ?_ | refine pw_exit ?_ | refine q3 ?_ | refine q4 ?_ | refine q5 ?_ | refine q6 ?_ | refine q7 ?_ | refine q8 ?_ | refine q17 (fun h => ?_) (fun h => ?_) | refine q18 (fun h => ?_) (fun h => ?_) | refine q9 ?_ | refine q10 ?_ | refine q11 ?_ | refine q12 ?_ | refine q13 ?_ | refine q14 ?_ | refine q15 ?_ | refine q16 (fun h => ?_) (fun h => ?_) | fail)
  · exfalso; simp at h; omega
  have hr := vright_do vars vals hl
  rw [h0] at hr
  refine wcp' hr rfl rfl rfl rfl rfl (by repeat (first | exact coeL_nil | refine coeL_cons (coe_refl _) ?_)) ?_
  repeat' (first | refine q1 ?_ | refine q2 ?_ | refine wk_nil ?_ | refine wa_nil ?_ | refine pw_seq ?_ | refine pw_region ?_ | refine pw_block ?_ | refine pw_skip ?_ | refine pw_ret ?_ | refine pw_exit ?_ | refine q3 ?_ | refine q4 ?_ | refine q5 ?_ | refine q6 ?_ | refine q7 ?_ | refine q8 ?_ | refine q17 (fun h => ?_) (fun h => ?_) | refine q18 (fun h => ?_) (fun h => ?_) | refine q9 ?_ | refine q10 ?_ | refine q11 ?_ | refine q12 ?_ | refine q13 ?_ | refine q14 ?_ | refine q15 ?_ | refine q16 (fun h => ?_) (fun h => ?_) | fail)
  refine pd_seq (pd_pw ?_)
  repeat' (first | refine q1 ?_ | refine q2 ?_ | refine wk_nil ?_ | refine wa_nil ?_ | refine pw_seq ?_ | refine pw_region ?_ | refine pw_block ?_ | refine pw_skip ?_ | refine pw_ret ?_ | refine pw_exit ?_ | refine q3 ?_ | refine q4 ?_ | refine q5 ?_ | refine q6 ?_ | refine q7 ?_ | refine q8 ?_ | refine q17 (fun h => ?_) (fun h => ?_) | refine q18 (fun h => ?_) (fun h => ?_) | refine q9 ?_ | refine q10 ?_ | refine q11 ?_ | refine q12 ?_ | refine q13 ?_ | refine q14 ?_ | refine q15 ?_ | refine q16 (fun h => ?_) (fun h => ?_) | fail)
  refine wcp' ht rfl rfl rfl rfl rfl (by repeat (first | exact coeL_nil | refine coeL_cons (coe_refl _) ?_)) ?_
  repeat' (first | refine q1 ?_ | refine q2 ?_ | refine wk_nil ?_ | refine wa_nil ?_ | refine pw_seq ?_ | refine pw_region ?_ | refine pw_block ?_ | refine pw_skip ?_ | refine pw_ret ?_ | refine pw_exit ?_ | refine q3 ?_ | refine q4 ?_ | refine q5 ?_ | refine q6 ?_ | refine q7 ?_ | refine q8 ?_ | refine q17 (fun h => ?_) (fun h => ?_) | refine q18 (fun h => ?_) (fun h => ?_) | refine q9 ?_ | refine q10 ?_ | refine q11 ?_ | refine q12 ?_ | refine q13 ?_ | refine q14 ?_ | refine q15 ?_ | refine q16 (fun h => ?_) (fun h => ?_) | fail)
  refine pd_seq (pd_pw ?_)
  repeat' (first | refine q1 ?_ | refine q2 ?_ | refine wk_nil ?_ | refine wa_nil ?_ | refine pw_seq ?_ | refine pw_region ?_ | refine pw_block ?_ | refine pw_skip ?_ | refine pw_ret ?_ | refine pw_exit ?_ | refine q3 ?_ | refine q4 ?_ | refine q5 ?_ | refine q6 ?_ | refine q7 ?_ | refine q8 ?_ | refine q17 (fun h => ?_) (fun h => ?_) | refine q18 (fun h => ?_) (fun h => ?_) | refine q9 ?_ | refine q10 ?_ | refine q11 ?_ | refine q12 ?_ | refine q13 ?_ | refine q14 ?_ | refine q15 ?_ | refine q16 (fun h => ?_) (fun h => ?_) | fail)
  · exact ⟨none, .inl ⟨rfl, .inr rfl⟩, _, rfl, rfl, rfl, .inr rfl, _, resPs_ok rfl, rfl, rfl⟩
theorem eval_truth (x : Ex) (vars : List ByteArray) (vals : List Int) (hs : x.small) (hc : checkX x = 0) (hl : vars.length = vals.length) (h0 : rightV vars vals = true) (hk : kindX vars x = 2) (na : Bool) (n : List Int) (nb : Bool) (d : List Int) (y : Bool)
    (he : Does 76 [valsP vars vals, exP x] ⟨[], []⟩ (.ret (.agg (resC na n nb d y))) ⟨[], []⟩) : Does 33 [exP x, strsP vars, intsP vals] ⟨[], []⟩ (.ret (.tup [vlP 2 ⟨#[]⟩ y, intP 0])) ⟨[], []⟩ := by
  have hchk := check_do x hs
  have ht := typed_do vars _ x (Nat.le_refl _) (fits_of hc)
  rw [hk] at ht
  rw [hc] at hchk
  refine ⟨enters_of Tryz.func33 rfl rfl, ev_bodyD ent_of Tryz.func33 rfl (Nat.le_of_ble_eq_true rfl) rfl (Nat.le_refl _) ?_⟩
  refine pd_seq (pd_pw ?_)
  repeat' (first | refine q1 ?_ | refine q2 ?_ | refine wk_nil ?_ | refine wa_nil ?_ | refine pw_seq ?_ | refine pw_region ?_ | refine pw_block ?_ | refine pw_skip ?_ | refine pw_ret ?_ | refine pw_exit ?_ | refine q3 ?_ | refine q4 ?_ | refine q5 ?_ | refine q6 ?_ | refine q7 ?_ | refine q8 ?_ | refine q17 (fun h => ?_) (fun h => ?_) | refine q18 (fun h => ?_) (fun h => ?_) | refine q9 ?_ | refine q10 ?_ | refine q11 ?_ | refine q12 ?_ | refine q13 ?_ | refine q14 ?_ | refine q15 ?_ | refine q16 (fun h => ?_) (fun h => ?_) | fail)
  refine pd_seq (pd_pw ?_)
  repeat' (first | refine q1 ?_ | refine q2 ?_ | refine wk_nil ?_ | refine wa_nil ?_ | refine pw_seq ?_ | refine pw_region ?_ | refine pw_block ?_ | refine pw_skip ?_ | refine pw_ret ?_ | refine pw_exit ?_ | refine q3 ?_ | refine q4 ?_ | refine q5 ?_ | refine q6 ?_ | refine q7 ?_ | refine q8 ?_ | refine q17 (fun h => ?_) (fun h => ?_) | refine q18 (fun h => ?_) (fun h => ?_) | refine q9 ?_ | refine q10 ?_ | refine q11 ?_ | refine q12 ?_ | refine q13 ?_ | refine q14 ?_ | refine q15 ?_ | refine q16 (fun h => ?_) (fun h => ?_) | fail)
  refine wcp' hchk rfl rfl rfl rfl rfl (by repeat (first | exact coeL_nil | refine coeL_cons (coe_refl _) ?_)) ?_
  repeat' (first | refine q1 ?_ | refine q2 ?_ | refine wk_nil ?_ | refine wa_nil ?_ | refine pw_seq ?_ | refine pw_region ?_ | refine pw_block ?_ | refine pw_skip ?_ | refine pw_ret ?_ | refine pw_exit ?_ | refine q3 ?_ | refine q4 ?_ | refine q5 ?_ | refine q6 ?_ | refine q7 ?_ | refine q8 ?_ | refine q17 (fun h => ?_) (fun h => ?_) | refine q18 (fun h => ?_) (fun h => ?_) | refine q9 ?_ | refine q10 ?_ | refine q11 ?_ | refine q12 ?_ | refine q13 ?_ | refine q14 ?_ | refine q15 ?_ | refine q16 (fun h => ?_) (fun h => ?_) | fail)
  refine pd_seq (pd_pw ?_)
  repeat' (first | refine q1 ?_ | refine q2 ?_ | refine wk_nil ?_ | refine wa_nil ?_ | refine pw_seq ?_ | refine pw_region ?_ | refine pw_block ?_ | refine pw_skip ?_ | refine pw_ret ?_ | refine pw_exit ?_ | refine q3 ?_ | refine q4 ?_ | refine q5 ?_ | refine q6 ?_ | refine q7 ?_ | refine q8 ?_ | refine q17 (fun h => ?_) (fun h => ?_) | refine q18 (fun h => ?_) (fun h => ?_) | refine q9 ?_ | refine q10 ?_ | refine q11 ?_ | refine q12 ?_ | refine q13 ?_ | refine q14 ?_ | refine q15 ?_ | refine q16 (fun h => ?_) (fun h => ?_) | fail)
  refine pd_seq (pd_pw ?_)
  repeat' (first | refine q1 ?_ | refine q2 ?_ | refine wk_nil ?_ | refine wa_nil ?_ | refine pw_seq ?_ | refine pw_region ?_ | refine pw_block ?_ | refine pw_skip ?_ | refine pw_ret ?_ | refine pw_exit ?_ | refine q3 ?_ | refine q4 ?_ | refine q5 ?_ | refine q6 ?_ | refine q7 ?_ | refine q8 ?_ | refine q17 (fun h => ?_) (fun h => ?_) | refine q18 (fun h => ?_) (fun h => ?_) | refine q9 ?_ | refine q10 ?_ | refine q11 ?_ | refine q12 ?_ | refine q13 ?_ | refine q14 ?_ | refine q15 ?_ | refine q16 (fun h => ?_) (fun h => ?_) | fail)
  · exfalso; simp at h; omega
  have hr := vright_do vars vals hl
  rw [h0] at hr
  refine wcp' hr rfl rfl rfl rfl rfl (by repeat (first | exact coeL_nil | refine coeL_cons (coe_refl _) ?_)) ?_
  repeat' (first | refine q1 ?_ | refine q2 ?_ | refine wk_nil ?_ | refine wa_nil ?_ | refine pw_seq ?_ | refine pw_region ?_ | refine pw_block ?_ | refine pw_skip ?_ | refine pw_ret ?_ | refine pw_exit ?_ | refine q3 ?_ | refine q4 ?_ | refine q5 ?_ | refine q6 ?_ | refine q7 ?_ | refine q8 ?_ | refine q17 (fun h => ?_) (fun h => ?_) | refine q18 (fun h => ?_) (fun h => ?_) | refine q9 ?_ | refine q10 ?_ | refine q11 ?_ | refine q12 ?_ | refine q13 ?_ | refine q14 ?_ | refine q15 ?_ | refine q16 (fun h => ?_) (fun h => ?_) | fail)
  refine pd_seq (pd_pw ?_)
  repeat' (first | refine q1 ?_ | refine q2 ?_ | refine wk_nil ?_ | refine wa_nil ?_ | refine pw_seq ?_ | refine pw_region ?_ | refine pw_block ?_ | refine pw_skip ?_ | refine pw_ret ?_ | refine pw_exit ?_ | refine q3 ?_ | refine q4 ?_ | refine q5 ?_ | refine q6 ?_ | refine q7 ?_ | refine q8 ?_ | refine q17 (fun h => ?_) (fun h => ?_) | refine q18 (fun h => ?_) (fun h => ?_) | refine q9 ?_ | refine q10 ?_ | refine q11 ?_ | refine q12 ?_ | refine q13 ?_ | refine q14 ?_ | refine q15 ?_ | refine q16 (fun h => ?_) (fun h => ?_) | fail)
  refine wcp' ht rfl rfl rfl rfl rfl (by repeat (first | exact coeL_nil | refine coeL_cons (coe_refl _) ?_)) ?_
  repeat' (first | refine q1 ?_ | refine q2 ?_ | refine wk_nil ?_ | refine wa_nil ?_ | refine pw_seq ?_ | refine pw_region ?_ | refine pw_block ?_ | refine pw_skip ?_ | refine pw_ret ?_ | refine pw_exit ?_ | refine q3 ?_ | refine q4 ?_ | refine q5 ?_ | refine q6 ?_ | refine q7 ?_ | refine q8 ?_ | refine q17 (fun h => ?_) (fun h => ?_) | refine q18 (fun h => ?_) (fun h => ?_) | refine q9 ?_ | refine q10 ?_ | refine q11 ?_ | refine q12 ?_ | refine q13 ?_ | refine q14 ?_ | refine q15 ?_ | refine q16 (fun h => ?_) (fun h => ?_) | fail)
  refine pd_seq (pd_pw ?_)
  repeat' (first | refine q1 ?_ | refine q2 ?_ | refine wk_nil ?_ | refine wa_nil ?_ | refine pw_seq ?_ | refine pw_region ?_ | refine pw_block ?_ | refine pw_skip ?_ | refine pw_ret ?_ | refine pw_exit ?_ | refine q3 ?_ | refine q4 ?_ | refine q5 ?_ | refine q6 ?_ | refine q7 ?_ | refine q8 ?_ | refine q17 (fun h => ?_) (fun h => ?_) | refine q18 (fun h => ?_) (fun h => ?_) | refine q9 ?_ | refine q10 ?_ | refine q11 ?_ | refine q12 ?_ | refine q13 ?_ | refine q14 ?_ | refine q15 ?_ | refine q16 (fun h => ?_) (fun h => ?_) | fail)
  refine pd_seq (pd_defer rfl rfl rfl rfl rfl rfl (by decide) ?_)
  refine pd_seq (pd_pw ?_)
  repeat' (first | refine q1 ?_ | refine q2 ?_ | refine wk_nil ?_ | refine wa_nil ?_ | refine pw_seq ?_ | refine pw_region ?_ | refine pw_block ?_ | refine pw_skip ?_ | refine pw_ret ?_ | refine pw_exit ?_ | refine q3 ?_ | refine q4 ?_ | refine q5 ?_ | refine q6 ?_ | refine q7 ?_ | refine q8 ?_ | refine q17 (fun h => ?_) (fun h => ?_) | refine q18 (fun h => ?_) (fun h => ?_) | refine q9 ?_ | refine q10 ?_ | refine q11 ?_ | refine q12 ?_ | refine q13 ?_ | refine q14 ?_ | refine q15 ?_ | refine q16 (fun h => ?_) (fun h => ?_) | fail)
  refine wcp' he rfl rfl rfl rfl rfl (by repeat (first | exact coeL_nil | refine coeL_cons (coe_refl _) ?_)) ?_
  repeat' (first | refine q1 ?_ | refine q2 ?_ | refine wk_nil ?_ | refine wa_nil ?_ | refine pw_seq ?_ | refine pw_region ?_ | refine pw_block ?_ | refine pw_skip ?_ | refine pw_ret ?_ | refine pw_exit ?_ | refine q3 ?_ | refine q4 ?_ | refine q5 ?_ | refine q6 ?_ | refine q7 ?_ | refine q8 ?_ | refine q17 (fun h => ?_) (fun h => ?_) | refine q18 (fun h => ?_) (fun h => ?_) | refine q9 ?_ | refine q10 ?_ | refine q11 ?_ | refine q12 ?_ | refine q13 ?_ | refine q14 ?_ | refine q15 ?_ | refine q16 (fun h => ?_) (fun h => ?_) | fail)
  refine pd_seq (pd_pw ?_)
  repeat' (first | refine q1 ?_ | refine q2 ?_ | refine wk_nil ?_ | refine wa_nil ?_ | refine pw_seq ?_ | refine pw_region ?_ | refine pw_block ?_ | refine pw_skip ?_ | refine pw_ret ?_ | refine pw_exit ?_ | refine q3 ?_ | refine q4 ?_ | refine q5 ?_ | refine q6 ?_ | refine q7 ?_ | refine q8 ?_ | refine q17 (fun h => ?_) (fun h => ?_) | refine q18 (fun h => ?_) (fun h => ?_) | refine q9 ?_ | refine q10 ?_ | refine q11 ?_ | refine q12 ?_ | refine q13 ?_ | refine q14 ?_ | refine q15 ?_ | refine q16 (fun h => ?_) (fun h => ?_) | fail)
  exact ⟨none, .inl ⟨rfl, .inr rfl⟩, ⟨_, Tryz.func75, rfl, rfl⟩, _, edef_none _ _ _ _ (.v (.int .i64 0)) _ _ _ _ _ _ _, _, rfl, rfl, rfl, .inr rfl, _, resPs_ok rfl, rfl, rfl⟩
theorem eval_num (x : Ex) (vars : List ByteArray) (vals : List Int) (hs : x.small) (hc : checkX x = 0) (hl : vars.length = vals.length) (h0 : rightV vars vals = true) (hk : kindX vars x = 1) (na : Bool) (n : List Int) (nb : Bool) (d : List Int) (y : Bool) (s : ByteArray)
    (he : Does 76 [valsP vars vals, exP x] ⟨[], []⟩ (.ret (.agg (resC na n nb d y))) ⟨[], []⟩) (htx : Does 77 [.agg [boolP na, limP n, boolP nb, limP d]] ⟨[], []⟩ (.ret (strP s)) ⟨[], []⟩) : Does 33 [exP x, strsP vars, intsP vals] ⟨[], []⟩ (.ret (.tup [vlP 1 s false, intP 0])) ⟨[], []⟩ := by
  have hchk := check_do x hs
  have ht := typed_do vars _ x (Nat.le_refl _) (fits_of hc)
  rw [hk] at ht
  rw [hc] at hchk
  refine ⟨enters_of Tryz.func33 rfl rfl, ev_bodyD ent_of Tryz.func33 rfl (Nat.le_of_ble_eq_true rfl) rfl (Nat.le_refl _) ?_⟩
  refine pd_seq (pd_pw ?_)
  repeat' (first | refine q1 ?_ | refine q2 ?_ | refine wk_nil ?_ | refine wa_nil ?_ | refine pw_seq ?_ | refine pw_region ?_ | refine pw_block ?_ | refine pw_skip ?_ | refine pw_ret ?_ | refine pw_exit ?_ | refine q3 ?_ | refine q4 ?_ | refine q5 ?_ | refine q6 ?_ | refine q7 ?_ | refine q8 ?_ | refine q17 (fun h => ?_) (fun h => ?_) | refine q18 (fun h => ?_) (fun h => ?_) | refine q9 ?_ | refine q10 ?_ | refine q11 ?_ | refine q12 ?_ | refine q13 ?_ | refine q14 ?_ | refine q15 ?_ | refine q16 (fun h => ?_) (fun h => ?_) | fail)
  refine pd_seq (pd_pw ?_)
  repeat' (first | refine q1 ?_ | refine q2 ?_ | refine wk_nil ?_ | refine wa_nil ?_ | refine pw_seq ?_ | refine pw_region ?_ | refine pw_block ?_ | refine pw_skip ?_ | refine pw_ret ?_ | refine pw_exit ?_ | refine q3 ?_ | refine q4 ?_ | refine q5 ?_ | refine q6 ?_ | refine q7 ?_ | refine q8 ?_ | refine q17 (fun h => ?_) (fun h => ?_) | refine q18 (fun h => ?_) (fun h => ?_) | refine q9 ?_ | refine q10 ?_ | refine q11 ?_ | refine q12 ?_ | refine q13 ?_ | refine q14 ?_ | refine q15 ?_ | refine q16 (fun h => ?_) (fun h => ?_) | fail)
  refine wcp' hchk rfl rfl rfl rfl rfl (by repeat (first | exact coeL_nil | refine coeL_cons (coe_refl _) ?_)) ?_
  repeat' (first | refine q1 ?_ | refine q2 ?_ | refine wk_nil ?_ | refine wa_nil ?_ | refine pw_seq ?_ | refine pw_region ?_ | refine pw_block ?_ | refine pw_skip ?_ | refine pw_ret ?_ | refine pw_exit ?_ | refine q3 ?_ | refine q4 ?_ | refine q5 ?_ | refine q6 ?_ | refine q7 ?_ | refine q8 ?_ | refine q17 (fun h => ?_) (fun h => ?_) | refine q18 (fun h => ?_) (fun h => ?_) | refine q9 ?_ | refine q10 ?_ | refine q11 ?_ | refine q12 ?_ | refine q13 ?_ | refine q14 ?_ | refine q15 ?_ | refine q16 (fun h => ?_) (fun h => ?_) | fail)
  refine pd_seq (pd_pw ?_)
  repeat' (first | refine q1 ?_ | refine q2 ?_ | refine wk_nil ?_ | refine wa_nil ?_ | refine pw_seq ?_ | refine pw_region ?_ | refine pw_block ?_ | refine pw_skip ?_ | refine pw_ret ?_ | refine pw_exit ?_ | refine q3 ?_ | refine q4 ?_ | refine q5 ?_ | refine q6 ?_ | refine q7 ?_ | refine q8 ?_ | refine q17 (fun h => ?_) (fun h => ?_) | refine q18 (fun h => ?_) (fun h => ?_) | refine q9 ?_ | refine q10 ?_ | refine q11 ?_ | refine q12 ?_ | refine q13 ?_ | refine q14 ?_ | refine q15 ?_ | refine q16 (fun h => ?_) (fun h => ?_) | fail)
  refine pd_seq (pd_pw ?_)
  repeat' (first | refine q1 ?_ | refine q2 ?_ | refine wk_nil ?_ | refine wa_nil ?_ | refine pw_seq ?_ | refine pw_region ?_ | refine pw_block ?_ | refine pw_skip ?_ | refine pw_ret ?_ | refine pw_exit ?_ | refine q3 ?_ | refine q4 ?_ | refine q5 ?_ | refine q6 ?_ | refine q7 ?_ | refine q8 ?_ | refine q17 (fun h => ?_) (fun h => ?_) | refine q18 (fun h => ?_) (fun h => ?_) | refine q9 ?_ | refine q10 ?_ | refine q11 ?_ | refine q12 ?_ | refine q13 ?_ | refine q14 ?_ | refine q15 ?_ | refine q16 (fun h => ?_) (fun h => ?_) | fail)
  · exfalso; simp at h; omega
  have hr := vright_do vars vals hl
  rw [h0] at hr
  refine wcp' hr rfl rfl rfl rfl rfl (by repeat (first | exact coeL_nil | refine coeL_cons (coe_refl _) ?_)) ?_
  repeat' (first | refine q1 ?_ | refine q2 ?_ | refine wk_nil ?_ | refine wa_nil ?_ | refine pw_seq ?_ | refine pw_region ?_ | refine pw_block ?_ | refine pw_skip ?_ | refine pw_ret ?_ | refine pw_exit ?_ | refine q3 ?_ | refine q4 ?_ | refine q5 ?_ | refine q6 ?_ | refine q7 ?_ | refine q8 ?_ | refine q17 (fun h => ?_) (fun h => ?_) | refine q18 (fun h => ?_) (fun h => ?_) | refine q9 ?_ | refine q10 ?_ | refine q11 ?_ | refine q12 ?_ | refine q13 ?_ | refine q14 ?_ | refine q15 ?_ | refine q16 (fun h => ?_) (fun h => ?_) | fail)
  refine pd_seq (pd_pw ?_)
  repeat' (first | refine q1 ?_ | refine q2 ?_ | refine wk_nil ?_ | refine wa_nil ?_ | refine pw_seq ?_ | refine pw_region ?_ | refine pw_block ?_ | refine pw_skip ?_ | refine pw_ret ?_ | refine pw_exit ?_ | refine q3 ?_ | refine q4 ?_ | refine q5 ?_ | refine q6 ?_ | refine q7 ?_ | refine q8 ?_ | refine q17 (fun h => ?_) (fun h => ?_) | refine q18 (fun h => ?_) (fun h => ?_) | refine q9 ?_ | refine q10 ?_ | refine q11 ?_ | refine q12 ?_ | refine q13 ?_ | refine q14 ?_ | refine q15 ?_ | refine q16 (fun h => ?_) (fun h => ?_) | fail)
  refine wcp' ht rfl rfl rfl rfl rfl (by repeat (first | exact coeL_nil | refine coeL_cons (coe_refl _) ?_)) ?_
  repeat' (first | refine q1 ?_ | refine q2 ?_ | refine wk_nil ?_ | refine wa_nil ?_ | refine pw_seq ?_ | refine pw_region ?_ | refine pw_block ?_ | refine pw_skip ?_ | refine pw_ret ?_ | refine pw_exit ?_ | refine q3 ?_ | refine q4 ?_ | refine q5 ?_ | refine q6 ?_ | refine q7 ?_ | refine q8 ?_ | refine q17 (fun h => ?_) (fun h => ?_) | refine q18 (fun h => ?_) (fun h => ?_) | refine q9 ?_ | refine q10 ?_ | refine q11 ?_ | refine q12 ?_ | refine q13 ?_ | refine q14 ?_ | refine q15 ?_ | refine q16 (fun h => ?_) (fun h => ?_) | fail)
  refine pd_seq (pd_pw ?_)
  repeat' (first | refine q1 ?_ | refine q2 ?_ | refine wk_nil ?_ | refine wa_nil ?_ | refine pw_seq ?_ | refine pw_region ?_ | refine pw_block ?_ | refine pw_skip ?_ | refine pw_ret ?_ | refine pw_exit ?_ | refine q3 ?_ | refine q4 ?_ | refine q5 ?_ | refine q6 ?_ | refine q7 ?_ | refine q8 ?_ | refine q17 (fun h => ?_) (fun h => ?_) | refine q18 (fun h => ?_) (fun h => ?_) | refine q9 ?_ | refine q10 ?_ | refine q11 ?_ | refine q12 ?_ | refine q13 ?_ | refine q14 ?_ | refine q15 ?_ | refine q16 (fun h => ?_) (fun h => ?_) | fail)
  refine pd_seq (pd_defer rfl rfl rfl rfl rfl rfl (by decide) ?_)
  refine pd_seq (pd_pw ?_)
  repeat' (first | refine q1 ?_ | refine q2 ?_ | refine wk_nil ?_ | refine wa_nil ?_ | refine pw_seq ?_ | refine pw_region ?_ | refine pw_block ?_ | refine pw_skip ?_ | refine pw_ret ?_ | refine pw_exit ?_ | refine q3 ?_ | refine q4 ?_ | refine q5 ?_ | refine q6 ?_ | refine q7 ?_ | refine q8 ?_ | refine q17 (fun h => ?_) (fun h => ?_) | refine q18 (fun h => ?_) (fun h => ?_) | refine q9 ?_ | refine q10 ?_ | refine q11 ?_ | refine q12 ?_ | refine q13 ?_ | refine q14 ?_ | refine q15 ?_ | refine q16 (fun h => ?_) (fun h => ?_) | fail)
  refine wcp' he rfl rfl rfl rfl rfl (by repeat (first | exact coeL_nil | refine coeL_cons (coe_refl _) ?_)) ?_
  repeat' (first | refine q1 ?_ | refine q2 ?_ | refine wk_nil ?_ | refine wa_nil ?_ | refine pw_seq ?_ | refine pw_region ?_ | refine pw_block ?_ | refine pw_skip ?_ | refine pw_ret ?_ | refine pw_exit ?_ | refine q3 ?_ | refine q4 ?_ | refine q5 ?_ | refine q6 ?_ | refine q7 ?_ | refine q8 ?_ | refine q17 (fun h => ?_) (fun h => ?_) | refine q18 (fun h => ?_) (fun h => ?_) | refine q9 ?_ | refine q10 ?_ | refine q11 ?_ | refine q12 ?_ | refine q13 ?_ | refine q14 ?_ | refine q15 ?_ | refine q16 (fun h => ?_) (fun h => ?_) | fail)
  refine pd_seq (pd_pw ?_)
  repeat' (first | refine q1 ?_ | refine q2 ?_ | refine wk_nil ?_ | refine wa_nil ?_ | refine pw_seq ?_ | refine pw_region ?_ | refine pw_block ?_ | refine pw_skip ?_ | refine pw_ret ?_ | refine pw_exit ?_ | refine q3 ?_ | refine q4 ?_ | refine q5 ?_ | refine q6 ?_ | refine q7 ?_ | refine q8 ?_ | refine q17 (fun h => ?_) (fun h => ?_) | refine q18 (fun h => ?_) (fun h => ?_) | refine q9 ?_ | refine q10 ?_ | refine q11 ?_ | refine q12 ?_ | refine q13 ?_ | refine q14 ?_ | refine q15 ?_ | refine q16 (fun h => ?_) (fun h => ?_) | fail)
  refine pd_seq (pd_pw ?_)
  repeat' (first | refine q1 ?_ | refine q2 ?_ | refine wk_nil ?_ | refine wa_nil ?_ | refine pw_seq ?_ | refine pw_region ?_ | refine pw_block ?_ | refine pw_skip ?_ | refine pw_ret ?_ | refine pw_exit ?_ | refine q3 ?_ | refine q4 ?_ | refine q5 ?_ | refine q6 ?_ | refine q7 ?_ | refine q8 ?_ | refine q17 (fun h => ?_) (fun h => ?_) | refine q18 (fun h => ?_) (fun h => ?_) | refine q9 ?_ | refine q10 ?_ | refine q11 ?_ | refine q12 ?_ | refine q13 ?_ | refine q14 ?_ | refine q15 ?_ | refine q16 (fun h => ?_) (fun h => ?_) | fail)
  refine wcp' htx rfl rfl rfl rfl rfl (by repeat (first | exact coeL_nil | refine coeL_cons (coe_refl _) ?_)) ?_
  repeat' (first | refine q1 ?_ | refine q2 ?_ | refine wk_nil ?_ | refine wa_nil ?_ | refine pw_seq ?_ | refine pw_region ?_ | refine pw_block ?_ | refine pw_skip ?_ | refine pw_ret ?_ | refine pw_exit ?_ | refine q3 ?_ | refine q4 ?_ | refine q5 ?_ | refine q6 ?_ | refine q7 ?_ | refine q8 ?_ | refine q17 (fun h => ?_) (fun h => ?_) | refine q18 (fun h => ?_) (fun h => ?_) | refine q9 ?_ | refine q10 ?_ | refine q11 ?_ | refine q12 ?_ | refine q13 ?_ | refine q14 ?_ | refine q15 ?_ | refine q16 (fun h => ?_) (fun h => ?_) | fail)
  refine pd_pw ?_
  repeat' (first | refine q1 ?_ | refine q2 ?_ | refine wk_nil ?_ | refine wa_nil ?_ | refine pw_seq ?_ | refine pw_region ?_ | refine pw_block ?_ | refine pw_skip ?_ | refine pw_ret ?_ | refine pw_exit ?_ | refine q3 ?_ | refine q4 ?_ | refine q5 ?_ | refine q6 ?_ | refine q7 ?_ | refine q8 ?_ | refine q17 (fun h => ?_) (fun h => ?_) | refine q18 (fun h => ?_) (fun h => ?_) | refine q9 ?_ | refine q10 ?_ | refine q11 ?_ | refine q12 ?_ | refine q13 ?_ | refine q14 ?_ | refine q15 ?_ | refine q16 (fun h => ?_) (fun h => ?_) | fail)
  exact ⟨none, .inl ⟨rfl, .inr rfl⟩, ⟨_, Tryz.func75, rfl, rfl⟩, _, edef_none _ _ _ _ (.v (.int .i64 0)) _ _ _ _ _ _ _, _, rfl, rfl, rfl, .inr rfl, _, resPs_ok rfl, rfl, rfl⟩
theorem eval_div (x : Ex) (vars : List ByteArray) (vals : List Int) (hs : x.small) (hc : checkX x = 0) (hl : vars.length = vals.length) (h0 : rightV vars vals = true) (hk : kindX vars x ≠ 0)
    (he : Does 76 [valsP vars vals, exP x] ⟨[], []⟩ (.panic divV) ⟨[], []⟩) : Does 33 [exP x, strsP vars, intsP vals] ⟨[], []⟩ (.ret (.tup [vlP 0 ⟨#[]⟩ false, intP 2])) ⟨[], []⟩ := by
  have hchk := check_do x hs
  have ht := typed_do vars _ x (Nat.le_refl _) (fits_of hc)
  rw [hc] at hchk
  refine ⟨enters_of Tryz.func33 rfl rfl, ev_bodyD ent_of Tryz.func33 rfl (Nat.le_of_ble_eq_true rfl) rfl (Nat.le_refl _) ?_⟩
  refine pd_seq (pd_pw ?_)
  repeat' (first | refine q1 ?_ | refine q2 ?_ | refine wk_nil ?_ | refine wa_nil ?_ | refine pw_seq ?_ | refine pw_region ?_ | refine pw_block ?_ | refine pw_skip ?_ | refine pw_ret ?_ | refine pw_exit ?_ | refine q3 ?_ | refine q4 ?_ | refine q5 ?_ | refine q6 ?_ | refine q7 ?_ | refine q8 ?_ | refine q17 (fun h => ?_) (fun h => ?_) | refine q18 (fun h => ?_) (fun h => ?_) | refine q9 ?_ | refine q10 ?_ | refine q11 ?_ | refine q12 ?_ | refine q13 ?_ | refine q14 ?_ | refine q15 ?_ | refine q16 (fun h => ?_) (fun h => ?_) | fail)
  refine pd_seq (pd_pw ?_)
  repeat' (first | refine q1 ?_ | refine q2 ?_ | refine wk_nil ?_ | refine wa_nil ?_ | refine pw_seq ?_ | refine pw_region ?_ | refine pw_block ?_ | refine pw_skip ?_ | refine pw_ret ?_ | refine pw_exit ?_ | refine q3 ?_ | refine q4 ?_ | refine q5 ?_ | refine q6 ?_ | refine q7 ?_ | refine q8 ?_ | refine q17 (fun h => ?_) (fun h => ?_) | refine q18 (fun h => ?_) (fun h => ?_) | refine q9 ?_ | refine q10 ?_ | refine q11 ?_ | refine q12 ?_ | refine q13 ?_ | refine q14 ?_ | refine q15 ?_ | refine q16 (fun h => ?_) (fun h => ?_) | fail)
  refine wcp' hchk rfl rfl rfl rfl rfl (by repeat (first | exact coeL_nil | refine coeL_cons (coe_refl _) ?_)) ?_
  repeat' (first | refine q1 ?_ | refine q2 ?_ | refine wk_nil ?_ | refine wa_nil ?_ | refine pw_seq ?_ | refine pw_region ?_ | refine pw_block ?_ | refine pw_skip ?_ | refine pw_ret ?_ | refine pw_exit ?_ | refine q3 ?_ | refine q4 ?_ | refine q5 ?_ | refine q6 ?_ | refine q7 ?_ | refine q8 ?_ | refine q17 (fun h => ?_) (fun h => ?_) | refine q18 (fun h => ?_) (fun h => ?_) | refine q9 ?_ | refine q10 ?_ | refine q11 ?_ | refine q12 ?_ | refine q13 ?_ | refine q14 ?_ | refine q15 ?_ | refine q16 (fun h => ?_) (fun h => ?_) | fail)
  refine pd_seq (pd_pw ?_)
  repeat' (first | refine q1 ?_ | refine q2 ?_ | refine wk_nil ?_ | refine wa_nil ?_ | refine pw_seq ?_ | refine pw_region ?_ | refine pw_block ?_ | refine pw_skip ?_ | refine pw_ret ?_ | refine pw_exit ?_ | refine q3 ?_ | refine q4 ?_ | refine q5 ?_ | refine q6 ?_ | refine q7 ?_ | refine q8 ?_ | refine q17 (fun h => ?_) (fun h => ?_) | refine q18 (fun h => ?_) (fun h => ?_) | refine q9 ?_ | refine q10 ?_ | refine q11 ?_ | refine q12 ?_ | refine q13 ?_ | refine q14 ?_ | refine q15 ?_ | refine q16 (fun h => ?_) (fun h => ?_) | fail)
  refine pd_seq (pd_pw ?_)
  repeat' (first | refine q1 ?_ | refine q2 ?_ | refine wk_nil ?_ | refine wa_nil ?_ | refine pw_seq ?_ | refine pw_region ?_ | refine pw_block ?_ | refine pw_skip ?_ | refine pw_ret ?_ | refine pw_exit ?_ | refine q3 ?_ | refine q4 ?_ | refine q5 ?_ | refine q6 ?_ | refine q7 ?_ | refine q8 ?_ | refine q17 (fun h => ?_) (fun h => ?_) | refine q18 (fun h => ?_) (fun h => ?_) | refine q9 ?_ | refine q10 ?_ | refine q11 ?_ | refine q12 ?_ | refine q13 ?_ | refine q14 ?_ | refine q15 ?_ | refine q16 (fun h => ?_) (fun h => ?_) | fail)
  · exfalso; simp at h; omega
  have hr := vright_do vars vals hl
  rw [h0] at hr
  refine wcp' hr rfl rfl rfl rfl rfl (by repeat (first | exact coeL_nil | refine coeL_cons (coe_refl _) ?_)) ?_
  repeat' (first | refine q1 ?_ | refine q2 ?_ | refine wk_nil ?_ | refine wa_nil ?_ | refine pw_seq ?_ | refine pw_region ?_ | refine pw_block ?_ | refine pw_skip ?_ | refine pw_ret ?_ | refine pw_exit ?_ | refine q3 ?_ | refine q4 ?_ | refine q5 ?_ | refine q6 ?_ | refine q7 ?_ | refine q8 ?_ | refine q17 (fun h => ?_) (fun h => ?_) | refine q18 (fun h => ?_) (fun h => ?_) | refine q9 ?_ | refine q10 ?_ | refine q11 ?_ | refine q12 ?_ | refine q13 ?_ | refine q14 ?_ | refine q15 ?_ | refine q16 (fun h => ?_) (fun h => ?_) | fail)
  refine pd_seq (pd_pw ?_)
  repeat' (first | refine q1 ?_ | refine q2 ?_ | refine wk_nil ?_ | refine wa_nil ?_ | refine pw_seq ?_ | refine pw_region ?_ | refine pw_block ?_ | refine pw_skip ?_ | refine pw_ret ?_ | refine pw_exit ?_ | refine q3 ?_ | refine q4 ?_ | refine q5 ?_ | refine q6 ?_ | refine q7 ?_ | refine q8 ?_ | refine q17 (fun h => ?_) (fun h => ?_) | refine q18 (fun h => ?_) (fun h => ?_) | refine q9 ?_ | refine q10 ?_ | refine q11 ?_ | refine q12 ?_ | refine q13 ?_ | refine q14 ?_ | refine q15 ?_ | refine q16 (fun h => ?_) (fun h => ?_) | fail)
  refine wcp' ht rfl rfl rfl rfl rfl (by repeat (first | exact coeL_nil | refine coeL_cons (coe_refl _) ?_)) ?_
  repeat' (first | refine q1 ?_ | refine q2 ?_ | refine wk_nil ?_ | refine wa_nil ?_ | refine pw_seq ?_ | refine pw_region ?_ | refine pw_block ?_ | refine pw_skip ?_ | refine pw_ret ?_ | refine pw_exit ?_ | refine q3 ?_ | refine q4 ?_ | refine q5 ?_ | refine q6 ?_ | refine q7 ?_ | refine q8 ?_ | refine q17 (fun h => ?_) (fun h => ?_) | refine q18 (fun h => ?_) (fun h => ?_) | refine q9 ?_ | refine q10 ?_ | refine q11 ?_ | refine q12 ?_ | refine q13 ?_ | refine q14 ?_ | refine q15 ?_ | refine q16 (fun h => ?_) (fun h => ?_) | fail)
  refine pd_seq (pd_pw ?_)
  repeat' (first | refine q1 ?_ | refine q2 ?_ | refine wk_nil ?_ | refine wa_nil ?_ | refine pw_seq ?_ | refine pw_region ?_ | refine pw_block ?_ | refine pw_skip ?_ | refine pw_ret ?_ | refine pw_exit ?_ | refine q3 ?_ | refine q4 ?_ | refine q5 ?_ | refine q6 ?_ | refine q7 ?_ | refine q8 ?_ | refine q17 (fun h => ?_) (fun h => ?_) | refine q18 (fun h => ?_) (fun h => ?_) | refine q9 ?_ | refine q10 ?_ | refine q11 ?_ | refine q12 ?_ | refine q13 ?_ | refine q14 ?_ | refine q15 ?_ | refine q16 (fun h => ?_) (fun h => ?_) | fail)
  · exfalso; simp at h; omega
  refine pd_seq (pd_defer rfl rfl rfl rfl rfl rfl (by decide) ?_)
  refine pd_seq (pd_pw ?_)
  refine pw_regionP ?_
  repeat' (first | refine q1 ?_ | refine q2 ?_ | refine wk_nil ?_ | refine wa_nil ?_ | refine pw_seq ?_ | refine pw_region ?_ | refine pw_block ?_ | refine pw_skip ?_ | refine pw_ret ?_ | refine pw_exit ?_ | refine q3 ?_ | refine q4 ?_ | refine q5 ?_ | refine q6 ?_ | refine q7 ?_ | refine q8 ?_ | refine q17 (fun h => ?_) (fun h => ?_) | refine q18 (fun h => ?_) (fun h => ?_) | refine q9 ?_ | refine q10 ?_ | refine q11 ?_ | refine q12 ?_ | refine q13 ?_ | refine q14 ?_ | refine q15 ?_ | refine q16 (fun h => ?_) (fun h => ?_) | fail)
  refine wk_panic rfl (opx_pure rfl he.1 rfl rfl (coeL_refl _) he.2) ?_
  exact ⟨some divV, .inr ⟨_, rfl, rfl⟩, ⟨_, Tryz.func75, rfl, rfl⟩, _, edef_div x (.v (.int .i64 0)) (.v (.string ⟨#[]⟩)) (.v (.bool false)) (.v (.int .i64 0)) _ _, _, rfl, rfl, rfl, .inr rfl, _, resPs_ok rfl, rfl, rfl⟩
end Go.Proofs.YtiledamgmppcmaaGreatDoor
/-! EvC -/
namespace Go.Proofs.YtiledamgmppcmaaGreatDoor
open Go.RowKit
theorem runV_ok {vars : List ByteArray} {vals : List Int} {x : Ex} {out : POut} (h : runV vars vals x = some (out, ⟨[], []⟩)) : Does 76 [valsP vars vals, exP x] ⟨[], []⟩ out ⟨[], []⟩ := evalE_ok orcE_ok h
theorem rv1 : runV [⟨#[120]⟩] [3] (nd 10 [eX, e2]) = some (.ret (.agg (resC false [3] false [2] false)), ⟨[], []⟩) := by kernel_rfl
theorem rv2 : runV [⟨#[120]⟩] [0] (nd 10 [e1, eX]) = some (.panic divV, ⟨[], []⟩) := by kernel_rfl
theorem rv3 : runV [⟨#[120]⟩] [0] (nd 18 [nd 11 [eX, e0], nd 15 [nd 10 [e1, eX], e0]]) = some (.ret (.agg [boolP false, .d (.v (.slice none 0 0)), boolP false, .d (.v (.slice none 0 0)), boolP true]), ⟨[], []⟩) := by kernel_rfl
theorem tx1 : evalE Tryz.prog orcE (fun _ => false) 1000 77 [.agg [boolP false, limP [3], boolP false, limP [2]]] ⟨[], []⟩ = some (.ret (strP ⟨#[51, 47, 50]⟩), ⟨[], []⟩) := by kernel_rfl
theorem ev1 : Does 33 [exP (nd 10 [eX, e2]), strsP [⟨#[120]⟩], intsP [3]] ⟨[], []⟩ (.ret (.tup [vlP 1 ⟨#[51, 47, 50]⟩ false, intP 0])) ⟨[], []⟩ :=
  eval_num _ _ _ (smallB_ok (by decide +kernel)) (by decide +kernel) (by decide +kernel) (by decide +kernel) (by decide +kernel) _ _ _ _ _ _ (runV_ok rv1) (evalE_ok orcE_ok tx1)
theorem ev2 : Does 33 [exP (nd 10 [e1, eX]), strsP [⟨#[120]⟩], intsP [0]] ⟨[], []⟩ (.ret (.tup [vlP 0 ⟨#[]⟩ false, intP 2])) ⟨[], []⟩ :=
  eval_div _ _ _ (smallB_ok (by decide +kernel)) (by decide +kernel) (by decide +kernel) (by decide +kernel) (by decide +kernel) (runV_ok rv2)
theorem ev3 : Does 33 [exP (nd 18 [nd 11 [eX, e0], nd 15 [nd 10 [e1, eX], e0]]), strsP [⟨#[120]⟩], intsP [0]] ⟨[], []⟩ (.ret (.tup [vlP 2 ⟨#[]⟩ true, intP 0])) ⟨[], []⟩ :=
  eval_truth _ _ _ (smallB_ok (by decide +kernel)) (by decide +kernel) (by decide +kernel) (by decide +kernel) (by decide +kernel) false [] false [] true
    (does_coe (runV_ok rv3) (coe_aggs (coeL_cons (coe_refl _) (coeL_cons coe_nil (coeL_cons (coe_refl _) (coeL_cons coe_nil (coeL_cons (coe_refl _) coeL_nil)))))))
theorem ev4 : Does 33 [exP e1, strsP [⟨#[120]⟩, ⟨#[120]⟩], intsP [1, 1]] ⟨[], []⟩ (.ret (.tup [vlP 0 ⟨#[]⟩ false, intP 2])) ⟨[], []⟩ :=
  eval_args _ _ _ (smallB_ok (by decide +kernel)) (by decide +kernel) (.inr (by decide +kernel))
end Go.Proofs.YtiledamgmppcmaaGreatDoor
/-! Wk -/
namespace Go.Proofs.YtiledamgmppcmaaGreatDoor
open Go.RowKit
theorem wr_of {x : Ex} {s : ByteArray} (hs : smallB x = true) (h : textX x = (s, 0)) : Does 16 [exP x] ⟨[], []⟩ (.ret (.tup [strP s, intP 0])) ⟨[], []⟩ := by
  have := ptext_do x (smallB_ok hs)
  rwa [h] at this
theorem ty_of {x : Ex} {vars : List ByteArray} {a b : Int} (hs : smallB x = true) (h : typeX vars x = (a, b)) : Does 22 [exP x, strsP vars] ⟨[], []⟩ (.ret (.tup [intP a, intP b])) ⟨[], []⟩ := by
  have := type_do vars x (smallB_ok hs)
  rwa [h] at this
theorem nm_of {x : Ex} {l : List ByteArray} {b : Int} (hs : smallB x = true) (h : namesX x = (l, b)) : Does 14 [exP x] ⟨[], []⟩ (.ret (.tup [strsP l, intP b])) ⟨[], []⟩ := by
  have := names_do x (smallB_ok hs)
  rwa [h] at this
def wx1 : Ex := nd 9 [nd 7 [e1, e2], eX]
def wx2 : Ex := nd 8 [e1, nd 8 [e2, e3]]
def wx3 : Ex := nd 6 [nd 6 [eT]]
def wx4 : Ex := nd 7 [nd 19 [eT, e1, e2], e3]
def wx5 : Ex := nd 7 [e1, nd 19 [eT, e2, e3]]
def wx6 : Ex := nd 17 [nd 13 [e1, e2], eT]
def wx7 : Ex := nd 5 [nd 7 [e1, e2]]
def ws1 : ByteArray := ⟨#[40, 32, 49, 32, 43, 32, 50, 32, 41, 32, 42, 32, 120]⟩
def ws2 : ByteArray := ⟨#[49, 32, 45, 32, 40, 32, 50, 32, 45, 32, 51, 32, 41]⟩
def ws3 : ByteArray := ⟨#[110, 111, 116, 32, 110, 111, 116, 32, 116, 114, 117, 101]⟩
def ws4 : ByteArray := ⟨#[40, 32, 105, 102, 32, 116, 114, 117, 101, 32, 116, 104, 101, 110, 32, 49, 32, 101, 108, 115, 101, 32, 50, 32, 41, 32, 43, 32, 51]⟩
def ws5 : ByteArray := ⟨#[49, 32, 43, 32, 40, 32, 105, 102, 32, 116, 114, 117, 101, 32, 116, 104, 101, 110, 32, 50, 32, 101, 108, 115, 101, 32, 51, 32, 41]⟩
def ws6 : ByteArray := ⟨#[49, 32, 60, 32, 50, 32, 97, 110, 100, 32, 116, 114, 117, 101]⟩
def ws7 : ByteArray := ⟨#[45, 32, 40, 32, 49, 32, 43, 32, 50, 32, 41]⟩
def factsW : List FactT := [
  (36, [strP txt1, exP (nd 8 [nd 7 [e1, nd 9 [e2, eX]], e3]), intP 7], .ret (boolP true)), (36, [strP txt2, exP (nd 13 [e1, eX]), intP 3], .ret (boolP true)), (36, [strP txt4, exP (nd 7 [e1, nd 5 [e2]]), intP 4], .ret (boolP true)),
  (36, [strP txt5, exP (nd 6 [e1]), intP 2], .ret (boolP true)), (41, [strP txt3, intP 3, intP 350], .ret (boolP true)), (41, [strP txt6, intP 0, intP 350], .ret (boolP true)),
  (16, [exP wx1], .ret (.tup [strP ws1, intP 0])), (16, [exP wx2], .ret (.tup [strP ws2, intP 0])), (16, [exP wx3], .ret (.tup [strP ws3, intP 0])), (16, [exP wx4], .ret (.tup [strP ws4, intP 0])),
  (16, [exP wx5], .ret (.tup [strP ws5, intP 0])), (16, [exP wx6], .ret (.tup [strP ws6, intP 0])), (16, [exP wx7], .ret (.tup [strP ws7, intP 0])),
  (22, [exP (nd 7 [eX, e1]), strsP [⟨#[120]⟩]], .ret (.tup [intP 1, intP 0])), (22, [exP eX, strsP []], .ret (.tup [intP 0, intP 351])), (22, [exP (nd 6 [e1]), strsP []], .ret (.tup [intP 0, intP 351])), (22, [exP (nd 19 [eT, e1, eF]), strsP []], .ret (.tup [intP 0, intP 351])),
  (33, [exP (nd 10 [eX, e2]), strsP [⟨#[120]⟩], intsP [3]], .ret (.tup [vlP 1 ⟨#[51, 47, 50]⟩ false, intP 0])), (33, [exP (nd 10 [e1, eX]), strsP [⟨#[120]⟩], intsP [0]], .ret (.tup [vlP 0 ⟨#[]⟩ false, intP 2])),
  (33, [exP (nd 18 [nd 11 [eX, e0], nd 15 [nd 10 [e1, eX], e0]]), strsP [⟨#[120]⟩], intsP [0]], .ret (.tup [vlP 2 ⟨#[]⟩ true, intP 0])), (33, [exP e1, strsP [⟨#[120]⟩, ⟨#[120]⟩], intsP [1, 1]], .ret (.tup [vlP 0 ⟨#[]⟩ false, intP 2])),
  (14, [exP (nd 7 [eY, nd 9 [eX, eY]])], .ret (.tup [strsP [⟨#[121]⟩, ⟨#[120]⟩], intP 0]))]
theorem factsW_ok : ∀ e ∈ factsW, FactT.holds e :=
  facts_cons reads1 (facts_cons reads2 (facts_cons reads4 (facts_cons reads5 (facts_cons fails3 (facts_cons fails6
  (facts_cons (wr_of (by decide +kernel) (by decide +kernel)) (facts_cons (wr_of (by decide +kernel) (by decide +kernel)) (facts_cons (wr_of (by decide +kernel) (by decide +kernel)) (facts_cons (wr_of (by decide +kernel) (by decide +kernel))
  (facts_cons (wr_of (by decide +kernel) (by decide +kernel)) (facts_cons (wr_of (by decide +kernel) (by decide +kernel)) (facts_cons (wr_of (by decide +kernel) (by decide +kernel))
  (facts_cons (ty_of (by decide +kernel) (by decide +kernel)) (facts_cons (ty_of (by decide +kernel) (by decide +kernel)) (facts_cons (ty_of (by decide +kernel) (by decide +kernel)) (facts_cons (ty_of (by decide +kernel) (by decide +kernel))
  (facts_cons ev1 (facts_cons ev2 (facts_cons ev3 (facts_cons ev4 (facts_cons (nm_of (by decide +kernel) (by decide +kernel)) facts_nil)))))))))))))))))))))
theorem works_run : evalE Tryz.prog (orcT factsW) (fun _ => false) 1000 24 [] ⟨[], []⟩ = some (.ret (boolP true), ⟨[], []⟩) := by kernel_rfl
theorem works_do : Does 24 [] ⟨[], []⟩ (.ret (boolP true)) ⟨[], []⟩ := evalE_ok (orcT_ok factsW_ok) works_run
end Go.Proofs.YtiledamgmppcmaaGreatDoor
/-! ExprChecks -/
namespace Go.Proofs.YtiledamgmppcmaaGreatDoor.exprChecks
open Go.ChangeShapes Go.WideShapes Go.ChangeAt Go.RowKit Go.Joins
set_option linter.unusedVariables false

theorem own : ownKnob Tryz.prog.godebug = none := by kernel_rfl
theorem laidOut : laidOutB Tryz.prog = true := by kernel_rfl

set_option maxRecDepth 100000 in
theorem lifted (os : Os) (started : os.Started) (H : Type) (enc : TypeId × Value → H) :
    ReturnsInHanded {} Tryz.checked os 3 .any (fun w args => (Rows.exprChecksSpec.pre enc Tryz.prog Tryz.f3 Rows.exprChecksRow.domain false w args ∧ laidMetH Tryz.prog Rows.exprChecksRow.laid w) ∧ sizedMet enc Tryz.prog Tryz.f3 (OpenSpec.ofChange Rows.exprChecksSpec) false w args)
      (Rows.exprChecksSpec.post enc Tryz.prog Tryz.f3 false true false false) := by
  refine returnsInHanded_of_change_and (C := Tryz.checked) (X := fun w _ => laidMetH Tryz.prog Rows.exprChecksRow.laid w) (fun _ _ _ hh h => h.of_heap hh) own started (by kernel_rfl) Tryz.func3
    (ChangeSpec.witness_shaped (enc := enc) (C := Tryz.checked) (os := os) (X := fun w _ => laidMetH Tryz.prog Rows.exprChecksRow.laid w) false (World.laidAll Tryz.prog os Rows.exprChecksRow.laid)
      #[.agg #[.int .i64 0, .int .i64 0, .string ByteArray.empty, .slice none 0 0], .slice none 0 0, .agg #[.int .u8 0, .int .u8 0, .int .i64 0, .string ByteArray.empty, .int .i64 0, .int .i64 0, .string ByteArray.empty, .slice none 0 0], .int .u8 0, .slice none 0 0] 8 (World.laidAll_os _ _ _)
      (World.shaped_of_ZipB (by kernel_rfl) (by kernel_rfl)) (by kernel_rfl) (by kernel_rfl) (by kernel_rfl)
      (by rw [MakeChecks.laidMetH_plain _ _ _ (by kernel_rfl)]; exact laidMet_laidAll _ (by kernel_rfl) (by kernel_rfl))) ?_
  intro W base args ds gs before hval0 hW hcnd _ hL _
  have hval : ∀ (j : Nat) t v, Tryz.f3.params[j]? = some t → args[j]? = some v → Value.okWide Tryz.prog W .any base t v := hval0
  have hW' := hW
  obtain ⟨p, q, hA0, hV, rfl, hfz, hnd⟩ := hW
  have hA : DataW.TrodAll enc Tryz.prog W 0 (fun _ => true) true Tryz.f3.params.toList args.toList ds p := hA0
  rw [Tryz.params3] at hA hval
  obtain ⟨v0, vs0, d0, ds0, p0, q0, hargs, rfl, rfl, h0, r0⟩ := trodAll_cons hA
  obtain ⟨v1, vs1, d1, ds1, p1, q1, rfl, rfl, rfl, h1, r1⟩ := trodAll_cons r0
  obtain ⟨v2, vs2, d2, ds2, p2, q2, rfl, rfl, rfl, h2, r2⟩ := trodAll_cons r1
  obtain ⟨v3, vs3, d3, ds3, p3, q3, rfl, rfl, rfl, h3, r3⟩ := trodAll_cons r2
  obtain ⟨v4, vs4, d4, ds4, p4, q4, rfl, rfl, rfl, h4, r4⟩ := trodAll_cons r3
  obtain ⟨rfl, rfl, rfl⟩ := trodAll_nil r4
  obtain rfl : args = #[v0, v1, v2, v3, v4] := by cases args; simp_all
  obtain ⟨rfl, rfl⟩ := trodVars_none hV
  have lt0 : ∀ x ∈ p0, x.block < W.heap.size := by obtain ⟨m, hm⟩ := h0; exact DataW.trod_lt m _ _ _ hm
  have lt1 : ∀ x ∈ p1, x.block < W.heap.size := by obtain ⟨m, hm⟩ := h1; exact DataW.trod_lt m _ _ _ hm
  have lt2 : ∀ x ∈ p2, x.block < W.heap.size := by obtain ⟨m, hm⟩ := h2; exact DataW.trod_lt m _ _ _ hm
  have lt3 : ∀ x ∈ p3, x.block < W.heap.size := by obtain ⟨m, hm⟩ := h3; exact DataW.trod_lt m _ _ _ hm
  have lt4 : ∀ x ∈ p4, x.block < W.heap.size := by obtain ⟨m, hm⟩ := h4; exact DataW.trod_lt m _ _ _ hm
  rw [MakeChecks.laidMetH_plain _ _ _ (by kernel_rfl)] at hL
  have hfr := frozen_of hL ⟨_, .tail _ (.tail _ (.head _)), by kernel_rfl⟩
  obtain ⟨n0, e0, s0, g0⟩ := rd_row tyClosed (by kernel_rfl) Tryz.underlying24 (hval 0 24 v0 rfl rfl) h0
  obtain ⟨x, rfl, hx⟩ := shp_expr _ _ s0
  obtain ⟨n1, e1, g1, s1⟩ := rd_slice tyClosed (by kernel_rfl) Tryz.underlying25 (hval 1 25 v1 rfl rfl) h1
  obtain ⟨l, rfl⟩ := shp_u8s s1
  obtain ⟨n2, e2, s2, g2⟩ := rd_row tyClosed (by kernel_rfl) Tryz.underlying27 (hval 2 27 v2 rfl rfl) h2
  obtain ⟨b, hb, hbo, hbX⟩ := shp_bend s2
  obtain ⟨z, g3, w3⟩ := rd_int Tryz.underlying5 (hval 3 5 v3 rfl rfl) h3
  obtain ⟨u, rfl⟩ := u8_nat w3
  obtain ⟨n4, e4, g4, s4⟩ := rd_slice tyClosed (by kernel_rfl) Tryz.underlying28 (hval 4 28 v4 rfl rfl) h4
  obtain ⟨vars, rfl, _⟩ := shp_strs s4
  clear hA0 hval0
  rw [hb] at g2
  rw [cells_u8] at g1
  rw [cells_str] at g4
  have g0' : Rep Kz W (exP x) v0 := by cases x; exact g0
  refine (law_calls (vs := [v0, v1, v2, v3, v4]) (checks_walk x l b u.toNat vars hx hbX hbo u.toNat_lt works_do) hfr ⟨_, _, rfl, g0', _, _, rfl, g1, _, _, rfl, g2, _, _, rfl, g3, _, _, rfl, g4, rfl⟩).mono fun e W' ⟨he, bel⟩ => ?_
  subst he
  exact ⟨_, rfl, _, _, _, [], _, [], hW', trodAll_mk1 (shut_bool Tryz.underlying4 _), (trodAll_cons_mk (Below.trod laidOut (by kernel_rfl) (of_decide_eq_true (by kernel_rfl)) h0 bel lt0) (trodAll_cons_mk (Below.trod laidOut (by kernel_rfl) (of_decide_eq_true (by kernel_rfl)) h1 bel lt1) (trodAll_cons_mk (Below.trod laidOut (by kernel_rfl) (of_decide_eq_true (by kernel_rfl)) h2 bel lt2) (trodAll_cons_mk (Below.trod laidOut (by kernel_rfl) (of_decide_eq_true (by kernel_rfl)) h3 bel lt3) (trodAll_cons_mk (Below.trod laidOut (by kernel_rfl) (of_decide_eq_true (by kernel_rfl)) h4 bel lt4) trodAll_mk0))))), rfl, bel.frame _, fun h => by cases h⟩
end Go.Proofs.YtiledamgmppcmaaGreatDoor.exprChecks
