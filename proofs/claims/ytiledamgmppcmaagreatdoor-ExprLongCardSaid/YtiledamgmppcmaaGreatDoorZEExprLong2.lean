/- A part of the proofs of some statements of this chapter: texts of these claims, merged. -/
import Derived.Below
import Derived.WalkKit
import Derived.BigQuiet
import Derived.Lib.Hide
import Derived.ControlIn
import Derived.OwnWalkIn
import Derived.Lib.ItoaNum
import Derived.OrdersIn
import Derived.TacticsIn
import Derived.Deep.MidRow
import Derived.OpenShut
import Derived.Lib.SmallJoins
import Derived.Laws.Tables
import Derived.Laws.OwnMore
import Derived.Orders
import Derived.Test.YtiledamgmppcmaaGreatDoorProg
import Derived.Shelf.Abstract
import Derived.Test.YtiledamgmppcmaaGreatDoorRows
import Derived.Carry
import Derived.Lib.LaidU8
import Derived.Lib.LaidTab
import Derived.Lay
import Derived.MakeChecks
import Derived.Laws.Strings
import Derived.WalkSpells
import Derived.WalkLawsBesides
import Derived.Laws.EntriesVeiled
import Derived.Deep.RegionHeld3
import Derived.Deep.QuietTactic
import Derived.Lib.Bytealg
import Derived.Shelf.Strings.Builder1
import Derived.Shelf.Small.Strs
import Derived.Shelf.Small.Wraps
import Derived.Shelf.Strings.BuilderF
import Derived.Shelf.Strings.BuilderK
import Derived.Shelf.Strconv.Atoi
import Derived.Shelf.Strconv.Itoa0
import Derived.Shelf.Strconv.Itoa1
import Derived.Shelf.LaysM
import Derived.Shelf.Strconv.Itoa2
import Derived.Shelf.Strconv.Itoa3
import Derived.Shelf.Strconv.AtoiErrFast
import Derived.Shelf.Strconv.ParseIntEmpty
import Derived.Shelf.Strconv.AtoiFail
import Derived.Shelf.Strconv.Clone
import Derived.Shelf.Strconv.SyntaxError
import Derived.Shelf.LaysC
import Derived.Shelf.Strconv.ToError
import Derived.Shelf.Strconv.AtoiErr
import Derived.Shelf.Strconv.ErrVar
import Derived.Shelf.Strconv.Lower
import Derived.Shelf.Strconv.ParseUint10
import Derived.Shelf.Strconv.ParseUint10Empty
import Derived.Shelf.Strconv.ParseUint10Any
import Derived.Shelf.Strconv.ParseInt10
import Derived.Shelf.Strconv.AtoiLong
import Derived.Shelf.Strconv.AtoiInnerAll
import Derived.Shelf.Strconv.RangeError
import Derived.Shelf.Strconv.ToErrorRange
import Derived.Shelf.Strconv.AtoiAll
import Derived.Shelf.Strconv.ErrVarAll
import Derived.Shelf.Strconv.ParseUintEmpty
import Derived.Shelf.Strconv.ParseUint10b64
import Derived.Shelf.Strconv.ParseUint10b32
import Derived.Shelf.Strconv.ParseUint10b16
import Derived.Shelf.Strconv.ParseUint10b8
import Derived.Shelf.Strconv.ParseUint10At
import Derived.Ground.MpProg
import Derived.Shelf.Pu.ParseUintPublic10
import Derived.Shelf.Pu.ErrVarParseUint
import Derived.Shelf.Strings.Search1
import Derived.Shelf.Strings.Search2
import Derived.Shelf.Strings.Cut
import Derived.Shelf.Strings.Shaped
import Derived.Shelf.Strings.Prefix
import Derived.Deep.DeepCutAuto
import Derived.Lib.IndexBytes
import Derived.Deep.LoopGhost
import Derived.StillTail
import Derived.BigRegion
import Derived.Deep.CutBlock
import Derived.RangeFuncBox
import Derived.RangeFuncLeaves
import Derived.RangeFuncCalls
import Derived.TacticsInMore
import Derived.LoopNIn
import Derived.LoopIn
import Derived.RecoverIn
import Derived.RangeFuncNested
import Derived.Maps.AppendAt
import Derived.Shelf.RegionOpen
import Derived.Laws.StructEq
import Derived.Lib.Join
import Derived.Deep.AppendLies
import Derived.Deep.RegionLaw
import Derived.Laws.Rows
import Derived.RangeFuncOwn
import Derived.Laws.MakeOwn
import Derived.Lib.AppendStr
import Derived.Laws.BytesArg
import Derived.ProofKit
import Derived.Test.YtiledamgmppcmaaGreatDoorZEExprLong1
set_option linter.unusedVariables false
set_option linter.unusedSimpArgs false
set_option linter.unusedSectionVars false
set_option linter.all false
namespace Go.Proofs.YtiledamgmppcmaaGreatDoor
open Go.RowKit
theorem Fy : ∀ (n f : Nat) (l : List UInt8) (acc : List Tok), (∀ t ∈ acc, Ay t.kind t.text = true) -> ∀ t ∈ (Cv n f l acc).1, Ay t.kind t.text = true
  | _, 0, _, _, h => h
  | n, f + 1, l, acc, h => by
    unfold Cv
    split
    . exact h
    . split
      . simp
      . rename_i h2
        split
        . simp
        . refine Fy n f _ _ fun t ht => ?_
          rcases List.mem_append.1 ht with ht | ht
          . exact h t ht
          . rw [List.mem_singleton] at ht; subst ht
            simpa using h2
theorem J3 (l : List UInt8) : ∀ t ∈ (Cn l).1, Ay t.kind t.text = true := by
  unfold Cn
  split
  . simp
  . exact Fy _ _ _ _ (by simp)
def tksT (s : ByteArray) : List TkZ := (Cn s.data.toList).1.map Mt
theorem tksT_len (s : ByteArray) : (tksT s).length <= 2000 := by unfold tksT; rw [List.length_map]; exact Ny _
section
variable {N : Nat} {ops : Array Oper} {rest : List Oper} {o : Oper} {F : Nat -> PV} {S : PS} {q : WRes -> Prop} {U Ut : List Nat} {k : Nat} {bm : Bool} {D : List Nat}
theorem wivn {t : TypeId} {x y : Operand} {l : List PV} {kd : IntKind} {j : Int} {p : PV} (h0 : 0 <= j) (hp : l[j.toNat * (tyi (tyi t).elem).size]? = some p) (kk : WA Tryz.prog N ops chN U Ut (k + 1) rest (Ch N o.dst p F) S bm D q) (hg : Am ops F o = some true := by exact rfl) (ho : o.op = .index t x y := by exact rfl) (hk : (Bq t && Nat.beq (tyi t).kind 3 && Bq (tyi t).elem && !(tyi (tyi t).elem).isRow) = true := by exact rfl) (hx : evP F x = .agg l := by exact rfl) (hy : evP F y = .d (.v (.int kd j)) := by exact rfl) (h1 : j < (tyi t).len) : WA Tryz.prog N ops chN U Ut k (o :: rest) F S bm D q := by
  simp only [Bool.and_eq_true, Bool.not_eq_true'] at hk
  exact Vy hg rfl Afl (J7 ho (Gl t hk.1.1.1) (Nat.eq_of_beq_eq_true hk.1.1.2) (Gl _ hk.1.2) hx hy h0 h1 (.inr ⟨hk.2, hp⟩)) kk
end
def lgO : List ByteArray := [⟨#[]⟩, ⟨#[]⟩, ⟨#[40, 32]⟩, ⟨#[45, 32]⟩, ⟨#[110, 111, 116, 32]⟩, ⟨#[105, 102, 32, 116, 114, 117, 101, 32, 116, 104, 101, 110, 32, 49, 32, 101, 108, 115, 101, 32]⟩]
def lgP : List ByteArray := [⟨#[32, 43, 32, 49]⟩, ⟨#[32, 111, 114, 32, 116, 114, 117, 101]⟩, ⟨#[]⟩, ⟨#[]⟩, ⟨#[]⟩, ⟨#[]⟩]
def lgQ : List ByteArray := [⟨#[]⟩, ⟨#[]⟩, ⟨#[32, 41]⟩, ⟨#[]⟩, ⟨#[]⟩, ⟨#[]⟩]
theorem Am1 {l : List ByteArray} (h : l.length = 6) (h2 : (l.all fun s => decide (s.size <= 20)) = true) {j : Int} (h0 : 0 <= j) (h6 : j < 6) : ∃ s : ByteArray, (l.map By)[j.toNat * 1]? = some (By s) /\ s.size <= 20 := by
  have hlt : j.toNat < l.length := by omega
  refine ⟨l[j.toNat], by rw [Nat.mul_one, List.getElem?_map, List.getElem?_eq_getElem hlt]; rfl, ?_⟩
  exact of_decide_eq_true (List.all_eq_true.1 h2 _ (List.getElem_mem hlt))
mutual
theorem Hh : ∀ x : Ex, x.same x = true
  | .mk o n s l => by rw [Ex.same]; simp [Hi l]
theorem Hi : ∀ l : List Ex, Ly l l = true
  | [] => rfl
  | x :: l => by rw [Ly, Hh x, Hi l]; rfl
end
set_option maxHeartbeats 4000000 in
theorem Am4 (kd n : Nat) (hk : kd < 256) (hn : n < 256) (hw : An 24 [] ⟨[], []⟩ (.ret (A7 true)) ⟨[], []⟩) : An 5 [.d (.v (.int .u8 kd)), .d (.v (.int .u8 n))] ⟨[], []⟩ (.ret (A7 true)) ⟨[], []⟩ := by
  have hj0 : 0 <= (kd : Int) % 6 := by omega
  have hj6 : (kd : Int) % 6 < 6 := by omega
  obtain ⟨o, ho, ho2⟩ := Am1 (l := lgO) rfl (by decide +kernel) hj0 hj6
  obtain ⟨p, hp, hp2⟩ := Am1 (l := lgP) rfl (by decide +kernel) hj0 hj6
  obtain ⟨r, hr, hr2⟩ := Am1 (l := lgQ) rfl (by decide +kernel) hj0 hj6
  refine Af Tryz.func5 rfl rfl (Nat.le_of_ble_eq_true rfl) rfl (Nat.le_refl _) ?_
  repeat' (first | refine rl0 ?_ | refine rs0 (fun h => ?_) (fun h => ?_) | fail)
  refine wivn hj0 ho ?_ (h1 := by exact hj6)
  repeat' (first | refine rl0 ?_ | refine rs0 (fun h => ?_) (fun h => ?_) | fail)
  refine wivn hj0 hp ?_ (h1 := by exact hj6)
  repeat' (first | refine rl0 ?_ | refine rs0 (fun h => ?_) (fun h => ?_) | fail)
  refine wivn hj0 hr ?_ (h1 := by exact hj6)
  repeat' (first | refine rl0 ?_ | refine rs0 (fun h => ?_) (fun h => ?_) | fail)
  refine Bt (ι := Nat × ByteArray) (ok := fun i => i.1 <= n /\ i.2.size <= 20 * i.1) (L := fun i => [(0, .d (.v (.int .u8 kd))), (1, .d (.v (.int .u8 n))), (5, By o), (6, By p), (7, By r), (8, By i.2), (9, Ai i.1)]) (Sx := fun _ => ⟨[], []⟩) (μ := fun i => n - i.1) (0, ⟨#[]⟩) ⟨Nat.zero_le _, Nat.zero_le _⟩ (by exact (by repeat (first | exact Ag | refine Ac rfl ?_))) rfl ?_
  rintro ⟨i, s⟩ ⟨hi, hs⟩
  simp only at hi hs
  repeat' (first | refine rl0 ?_ | refine rs0 (fun h => ?_) (fun h => ?_) | fail)
  refine wst rfl rfl ⟨by show (-9223372036854775808 : Int) <= _; omega, by show _ <= (9223372036854775807 : Int); omega⟩ ?_
  repeat' (first | refine rl0 ?_ | refine rs0 (fun h => ?_) (fun h => ?_) | fail)
  . have hlt : i < n := by simp at h; omega
    exact ⟨(i + 1, s ++ o), ⟨hlt, by show (s ++ o).size <= 20 * (i + 1); rw [ByteArray.size_append]; omega⟩, by show n - (i + 1) < n - i; omega, (by repeat (first | exact Ag | refine Ac rfl ?_)), rfl⟩
  refine wst rfl rfl (by show s.size + 1 <= _; omega) ?_
  repeat' (first | refine rl0 ?_ | refine rs0 (fun h => ?_) (fun h => ?_) | fail)
  have hs1 : (s ++ ⟨#[49]⟩ : ByteArray).size <= 5200 := by rw [ByteArray.size_append]; show s.size + 1 <= 5200; omega
  generalize (s ++ ⟨#[49]⟩ : ByteArray) = s1 at hs1
  refine Bt (ι := Nat × ByteArray) (ok := fun i => i.1 <= n /\ i.2.size <= 5200 + 40 * i.1) (L := fun i => [(0, .d (.v (.int .u8 kd))), (1, .d (.v (.int .u8 n))), (5, By o), (6, By p), (7, By r), (8, By i.2), (10, Ai i.1)]) (Sx := fun _ => ⟨[], []⟩) (μ := fun i => n - i.1) (0, s1) ⟨Nat.zero_le _, hs1⟩ (by exact (by repeat (first | exact Ag | refine Ac rfl ?_))) rfl ?_
  rintro ⟨i2, s2⟩ ⟨hi2, hs2⟩
  simp only at hi2 hs2
  repeat' (first | refine rl0 ?_ | refine rs0 (fun h => ?_) (fun h => ?_) | fail)
  refine wst rfl rfl ⟨by show (-9223372036854775808 : Int) <= _; omega, by show _ <= (9223372036854775807 : Int); omega⟩ ?_
  repeat' (first | refine rl0 ?_ | refine rs0 (fun h => ?_) (fun h => ?_) | fail)
  . have hlt : i2 < n := by simp at h; omega
    have e1 : (s2 ++ p).size = s2.size + p.size := ByteArray.size_append
    refine wst rfl rfl (by show (s2 ++ p).size + r.size <= _; omega) ?_
    repeat' (first | refine rl0 ?_ | refine rs0 (fun h => ?_) (fun h => ?_) | fail)
    exact ⟨(i2 + 1, (s2 ++ p) ++ r), ⟨hlt, by show ((s2 ++ p) ++ r).size <= 5200 + 40 * (i2 + 1); rw [ByteArray.size_append, e1]; omega⟩, by show n - (i2 + 1) < n - i2; omega, (by repeat (first | exact Ag | refine Ac rfl ?_)), rfl⟩
  have hT : Ll (tksT s2) = Aad (Cn s2.data.toList).1 := (Lh _).symm
  have hts : ∀ t ∈ tksT s2, t.2.1.size <= 9223372036854775807 := fun t ht => by
    unfold tksT at ht
    obtain ⟨u, hu, rfl⟩ := List.mem_map.1 ht
    have := Hg (J3 _ u hu)
    show (Aq u.text).size <= _
    have e : (Aq u.text).size = u.text.length := by unfold Aq; simp [ByteArray.size]
    omega
  have hlen := tksT_len s2
  have d1 := Acv s2
  have d2 := M1 (tksT s2) 0 (by omega) hts
  have d3 := Y6 (tksT s2) 0 (by omega) hts
  rw [<- hT] at d1
  generalize De (tksT s2) 0 = P at d2 d3
  have d4 := Wl _ P.1 P.1 (Nat.le_refl _)
  rw [Hh] at d4
  refine wp1 d1 ?_
  repeat' (first | refine rl0 ?_ | refine rs0 (fun h => ?_) (fun h => ?_) | fail)
  refine wp1 d2 ?_
  repeat' (first | refine rl0 ?_ | refine rs0 (fun h => ?_) (fun h => ?_) | fail)
  refine wp1 d3 ?_
  repeat' (first | refine rl0 ?_ | refine rs0 (fun h => ?_) (fun h => ?_) | fail)
  . refine wp1 d4 ?_
    repeat' (first | refine rl0 ?_ | refine rs0 (fun h => ?_) (fun h => ?_) | fail)
    refine wp1 hw ?_
    repeat' (first | refine rl0 ?_ | refine rs0 (fun h => ?_) (fun h => ?_) | fail)
    rfl
  all_goals (exfalso; simp at h)
end Go.Proofs.YtiledamgmppcmaaGreatDoor
namespace Go.Proofs.YtiledamgmppcmaaGreatDoor.exprLong
open Go.ChangeShapes Go.WideShapes Go.ChangeAt Go.RowKit Go.Joins
set_option linter.unusedVariables false
theorem own : ownKnob Tryz.prog.godebug = none := by kernel_rfl
theorem laidOut : laidOutB Tryz.prog = true := by kernel_rfl
set_option maxRecDepth 100000 in
theorem lifted (os : Os) (started : os.Started) (H : Type) (enc : TypeId × Value -> H) :
    ReturnsInHanded {} Tryz.checked os 5 .any (fun w args => (Rows.exprLongSpec.pre enc Tryz.prog Tryz.f5 Rows.exprLongRow.domain false w args /\ laidMetH Tryz.prog Rows.exprLongRow.laid w) /\ sizedMet enc Tryz.prog Tryz.f5 (OpenSpec.ofChange Rows.exprLongSpec) false w args)
      (Rows.exprLongSpec.post enc Tryz.prog Tryz.f5 false true false false) := by
  refine returnsInHanded_of_change_and (C := Tryz.checked) (X := fun w _ => laidMetH Tryz.prog Rows.exprLongRow.laid w) (fun _ _ _ hh h => h.of_heap hh) own started (by kernel_rfl) Tryz.func5
    (ChangeSpec.witness_shaped (enc := enc) (C := Tryz.checked) (os := os) (X := fun w _ => laidMetH Tryz.prog Rows.exprLongRow.laid w) false (World.laidAll Tryz.prog os Rows.exprLongRow.laid)
      #[.int .u8 0, .int .u8 0] 8 (World.laidAll_os _ _ _)
      (World.shaped_of_ZipB (by kernel_rfl) (by kernel_rfl)) (by kernel_rfl) (by kernel_rfl) (by kernel_rfl)
      (by rw [MakeChecks.laidMetH_plain _ _ _ (by kernel_rfl)]; exact laidMet_laidAll _ (by kernel_rfl) (by kernel_rfl))) ?_
  intro W base args ds gs before hval0 hW hcnd _ hL _
  have hval : ∀ (j : Nat) t v, Tryz.f5.params[j]? = some t -> args[j]? = some v -> Value.okWide Tryz.prog W .any base t v := hval0
  have hW' := hW
  obtain ⟨p, q, hA0, hV, rfl, hfz, hnd⟩ := hW
  have hA : DataW.TrodAll enc Tryz.prog W 0 (fun _ => true) true Tryz.f5.params.toList args.toList ds p := hA0
  rw [Tryz.params5] at hA hval
  obtain ⟨v0, vs0, d0, ds0, p0, q0, hargs, rfl, rfl, h0, r0⟩ := trodAll_cons hA
  obtain ⟨v1, vs1, d1, ds1, p1, q1, rfl, rfl, rfl, h1, r1⟩ := trodAll_cons r0
  obtain ⟨rfl, rfl, rfl⟩ := trodAll_nil r1
  obtain rfl : args = #[v0, v1] := by cases args; simp_all
  obtain ⟨rfl, rfl⟩ := trodVars_none hV
  have lt0 : ∀ x ∈ p0, x.block < W.heap.size := by obtain ⟨m, hm⟩ := h0; exact DataW.trod_lt m _ _ _ hm
  have lt1 : ∀ x ∈ p1, x.block < W.heap.size := by obtain ⟨m, hm⟩ := h1; exact DataW.trod_lt m _ _ _ hm
  rw [MakeChecks.laidMetH_plain _ _ _ (by kernel_rfl)] at hL
  have hfr := Pc hL ⟨_, _, .tail _ (.tail _ (.head _)), by kernel_rfl, by kernel_rfl⟩
  obtain ⟨z0, g0, w0⟩ := Rv Tryz.underlying5 (hval 0 5 v0 rfl rfl) h0
  obtain ⟨z1, g1, w1⟩ := Rv Tryz.underlying5 (hval 1 5 v1 rfl rfl) h1
  obtain ⟨u0, rfl⟩ := Lp w0
  obtain ⟨u1, rfl⟩ := Lp w1
  clear hA0 hval0
  refine (Pk (vs := [v0, v1]) (Am4 u0.toNat u1.toNat u0.toNat_lt u1.toNat_lt Tj) hfr ⟨_, _, rfl, g0, _, _, rfl, g1, rfl⟩).mono fun e W' ⟨he, bel⟩ => ?_
  subst he
  exact ⟨_, rfl, _, _, _, [], _, [], hW', trodAll_mk1 (shut_bool Tryz.underlying4 _), (trodAll_cons_mk (Below.trod laidOut (by kernel_rfl) (of_decide_eq_true (by kernel_rfl)) h0 bel lt0) (trodAll_cons_mk (Below.trod laidOut (by kernel_rfl) (of_decide_eq_true (by kernel_rfl)) h1 bel lt1) trodAll_mk0)), rfl, bel.frame _, fun h => by cases h⟩
end Go.Proofs.YtiledamgmppcmaaGreatDoor.exprLong
