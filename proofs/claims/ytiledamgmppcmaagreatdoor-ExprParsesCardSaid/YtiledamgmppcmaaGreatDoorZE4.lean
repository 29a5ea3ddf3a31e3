/- A part of the proofs of some statements of this chapter: texts of these claims, merged. -/
import Derived.Below
import Derived.WalkKit
import Derived.BigQuiet
import Derived.Lib.Hide
import Derived.ControlIn
import Derived.OwnWalkIn
import Derived.Lib.ItoaNum
import Derived.OrdersIn
import Derived.TacticsIn
import Derived.Deep.MidRow
import Derived.OpenShut
import Derived.Lib.SmallJoins
import Derived.Laws.Tables
import Derived.Laws.OwnMore
import Derived.Orders
import Derived.Test.YtiledamgmppcmaaGreatDoorProg
import Derived.Shelf.Abstract
import Derived.Test.YtiledamgmppcmaaGreatDoorRows
import Derived.Carry
import Derived.Lib.LaidU8
import Derived.Lib.LaidTab
import Derived.Lay
import Derived.MakeChecks
import Derived.Laws.Strings
import Derived.WalkSpells
import Derived.WalkLawsBesides
import Derived.Laws.EntriesVeiled
import Derived.Deep.RegionHeld3
import Derived.Deep.QuietTactic
import Derived.Lib.Bytealg
import Derived.Shelf.Strings.Builder1
import Derived.Shelf.Small.Strs
import Derived.Shelf.Small.Wraps
import Derived.Shelf.Strings.BuilderF
import Derived.Shelf.Strings.BuilderK
import Derived.Shelf.Strconv.Atoi
import Derived.Shelf.Strconv.Itoa0
import Derived.Shelf.Strconv.Itoa1
import Derived.Shelf.LaysM
import Derived.Shelf.Strconv.Itoa2
import Derived.Shelf.Strconv.Itoa3
import Derived.Shelf.Strconv.AtoiErrFast
import Derived.Shelf.Strconv.ParseIntEmpty
import Derived.Shelf.Strconv.AtoiFail
import Derived.Shelf.Strconv.Clone
import Derived.Shelf.Strconv.SyntaxError
import Derived.Shelf.LaysC
import Derived.Shelf.Strconv.ToError
import Derived.Shelf.Strconv.AtoiErr
import Derived.Shelf.Strconv.ErrVar
import Derived.Shelf.Strconv.Lower
import Derived.Shelf.Strconv.ParseUint10
import Derived.Shelf.Strconv.ParseUint10Empty
import Derived.Shelf.Strconv.ParseUint10Any
import Derived.Shelf.Strconv.ParseInt10
import Derived.Shelf.Strconv.AtoiLong
import Derived.Shelf.Strconv.AtoiInnerAll
import Derived.Shelf.Strconv.RangeError
import Derived.Shelf.Strconv.ToErrorRange
import Derived.Shelf.Strconv.AtoiAll
import Derived.Shelf.Strconv.ErrVarAll
import Derived.Shelf.Strconv.ParseUintEmpty
import Derived.Shelf.Strconv.ParseUint10b64
import Derived.Shelf.Strconv.ParseUint10b32
import Derived.Shelf.Strconv.ParseUint10b16
import Derived.Shelf.Strconv.ParseUint10b8
import Derived.Shelf.Strconv.ParseUint10At
import Derived.Ground.MpProg
import Derived.Shelf.Pu.ParseUintPublic10
import Derived.Shelf.Pu.ErrVarParseUint
import Derived.Shelf.Strings.Search1
import Derived.Shelf.Strings.Search2
import Derived.Shelf.Strings.Cut
import Derived.Shelf.Strings.Shaped
import Derived.Shelf.Strings.Prefix
import Derived.Deep.DeepCutAuto
import Derived.Lib.IndexBytes
import Derived.Deep.LoopGhost
import Derived.StillTail
import Derived.BigRegion
import Derived.Deep.CutBlock
import Derived.RangeFuncBox
import Derived.RangeFuncLeaves
import Derived.RangeFuncCalls
import Derived.TacticsInMore
import Derived.LoopNIn
import Derived.LoopIn
import Derived.RecoverIn
import Derived.RangeFuncNested
import Derived.Maps.AppendAt
import Derived.Shelf.RegionOpen
import Derived.Laws.StructEq
import Derived.Lib.Join
import Derived.Deep.AppendLies
import Derived.Deep.RegionLaw
import Derived.Laws.Rows
import Derived.RangeFuncOwn
import Derived.Laws.MakeOwn
import Derived.Test.YtiledamgmppcmaaGreatDoorZE3
set_option linter.unusedVariables false
set_option linter.unusedSimpArgs false
set_option linter.unusedSectionVars false
set_option linter.all false
namespace Go.Proofs.YtiledamgmppcmaaGreatDoor
open Go.RowKit
theorem opZ_all {op : Int} (h1 : 1 <= op) (h2 : op <= 19) : (opZ op).1 = Eu op /\ (opZ op).2.2.2.1 = Ak op /\ (5 <= op -> op <= 18 -> (opZ op).2.2.2.2 = C3 op) /\ (op = 3 -> (opZ op).2.2.2.2 = Oc) /\ (op = 4 -> (opZ op).2.2.2.2 = Jg) := by
  rcases Wc h1 h2 with rfl | rfl | rfl | rfl | rfl | rfl | rfl | rfl | rfl | rfl | rfl | rfl | rfl | rfl | rfl | rfl | rfl | rfl | rfl <;> exact ⟨rfl, rfl, fun _ _ => by first | rfl | omega, fun h => by first | rfl | omega, fun h => by first | rfl | omega⟩
theorem ar_lv {op : Int} (h1 : 1 <= op) (h2 : op <= 19) : 0 <= Ak op /\ Ak op <= 8 /\ ((op = 1 \/ op = 2 \/ op = 3 \/ op = 4) /\ Eu op = 0 /\ Ak op = 8 \/ op = 19 /\ Eu op = 3 \/ 5 <= op /\ op <= 18 /\ (Eu op = 1 /\ Ak op ≠ 4 \/ Eu op = 2)) := by
  rcases Wc h1 h2 with rfl | rfl | rfl | rfl | rfl | rfl | rfl | rfl | rfl | rfl | rfl | rfl | rfl | rfl | rfl | rfl | rfl | rfl | rfl <;> decide
theorem sg_size {op : Int} (h1 : 1 <= op) (h2 : op <= 19) : (opZ op).2.2.2.2.size <= 5 := by
  rcases Wc h1 h2 with rfl | rfl | rfl | rfl | rfl | rfl | rfl | rfl | rfl | rfl | rfl | rfl | rfl | rfl | rfl | rfl | rfl | rfl | rfl <;> exact Nat.le_of_ble_eq_true rfl
set_option maxHeartbeats 4000000 in
theorem text_do : ∀ (n : Nat) (x : Ex), x.hgt <= n -> x.fine = true -> wtX x <= 1000000 -> ∀ k : Int, 0 <= k -> k <= 9 -> An 53 [exP x, Ai k] ⟨[], []⟩ (.ret (By (F5 (Ap x, Ak x.op) k))) ⟨[], []⟩ := by
  intro n
  induction n with
  | zero => intro a h; cases a; simp [Ex.hgt] at h
  | succ n ih =>
    intro x hn hx hw k hk0 hk9
    have hf := Tw hx
    have hc := Cp x
    have hsz := Nj x hx
    have hsub : ∀ y ∈ x.args, (∀ k : Int, 0 <= k -> k <= 9 -> An 53 [exP y, Ai k] ⟨[], []⟩ (.ret (By (F5 (Ap y, Ak y.op) k))) ⟨[], []⟩) /\ (Ap y).size + 4 <= wtX y := fun y hy =>
      ⟨ih y (by have := Mn hy; omega) (Qd hx hy) (by have := Ajv hy; have := Alc x; omega), Nj y (Qd hx hy)⟩
    have hwx := Alc x
    have hop : 1 <= x.op /\ x.op <= 19 := by
      have := hf.1
      unfold Eu at this
      repeat' split at this
      all_goals omega
    have hkd := Aiz x.op
    have hall := opZ_all hop.1 hop.2
    have hcs := ar_lv hop.1 hop.2
    have hss := sg_size hop.1 hop.2
    rw [show Qz x.op = true from by simp [Qz, hop], cond_true] at hkd
    obtain ⟨z, hz⟩ : ∃ z, opZ x.op = z := ⟨_, rfl⟩
    rw [hz] at hall hss hkd
    obtain ⟨ar, wa, is, lv, sg⟩ := z
    simp only at hall hss
    obtain ⟨rfl, rfl, h5, h3, h4⟩ := hall
    refine Af Tryz.func53 rfl rfl (Nat.le_of_ble_eq_true rfl) rfl (Nat.le_refl _) ?_
    repeat' (first | refine rl4 ?_ | refine rs4 (fun h => ?_) (fun h => ?_) | fail)
    refine D3 hkd rfl rfl rfl rfl rfl (by repeat (first | exact Ad | refine Aa (Ab _) ?_)) ?_
    repeat' (first | refine rl4 ?_ | refine rs4 (fun h => ?_) (fun h => ?_) | fail)
    refine Ln (ι := Unit) (fun _ => True) (fun _ => [(1, Ai k), (5, .ptr 1 0), (7, By (Ap x))]) (fun _ => ⟨[(exP x).parts, opP (Eu x.op, wa, is, Ak x.op, sg)], []⟩) ?_ (fun _ _ => ?_)
    . repeat' (first | refine rl0 ?_ | refine rs0 (fun h => ?_) (fun h => ?_) | fail)
      . have ho : x.op = 1 := by simpa using h
        refine D3 (itoa_do x.n (by omega) (by omega)) rfl rfl rfl rfl rfl (by repeat (first | exact Ad | refine Aa (Ab _) ?_)) ?_
        repeat' (first | refine rl0 ?_ | refine rs0 (fun h => ?_) (fun h => ?_) | fail)
        refine ⟨(), trivial, Ac rfl (Ac rfl (Ac (show PV.d (.v (.string _)) = _ from ?_) Ag)), rfl⟩
        rw [hc]; unfold Ph; rw [if_pos ho]; rfl
      . have ho : x.op = 2 := by simpa using h
        refine ⟨(), trivial, Ac rfl (Ac rfl (Ac (show PV.d (.v (.string _)) = _ from ?_) Ag)), rfl⟩
        rw [hc]; unfold Ph; rw [if_neg (by omega), if_pos ho]
      . have ho : x.op = 19 := by simpa using h
        obtain ⟨a, b, c, he⟩ : ∃ a b c, x.args = [a, b, c] := by
          have := hf.1
          rw [ho, show Eu 19 = 3 from rfl] at this
          match e : x.args, this with
          | [a, b, c], _ => exact ⟨a, b, c, rfl⟩
          | [], h => simp at h
          | [_], h => simp at h
          | [_, _], h => simp at h
          | _ :: _ :: _ :: _ :: _, h => simp at h; omega
        have ha := hsub a (by rw [he]; simp)
        have hb := hsub b (by rw [he]; simp)
        have hcc := hsub c (by rw [he]; simp)
        have hwl : wtL x.args = wtX a + (wtX b + (wtX c + 0)) := by rw [he]; rfl
        have l0 : ∀ y : Ex, y.op >= 1 -> y.op <= 19 -> F5 (Ap y, Ak y.op) 0 = Ap y := fun y h1 h2 => if_neg (by have := ar_lv h1 h2; simp only; omega)
        have hop' : ∀ y ∈ x.args, 1 <= y.op /\ y.op <= 19 := fun y hy => by
          have := (Tw (Qd hx hy)).1
          unfold Eu at this
          repeat' split at this
          all_goals omega
        have da := ha.1 0 (by omega) (by omega)
        have db := hb.1 0 (by omega) (by omega)
        have dc := hcc.1 0 (by omega) (by omega)
        rw [l0 a (hop' a (by rw [he]; simp)).1 (hop' a (by rw [he]; simp)).2] at da
        rw [l0 b (hop' b (by rw [he]; simp)).1 (hop' b (by rw [he]; simp)).2] at db
        rw [l0 c (hop' c (by rw [he]; simp)).1 (hop' c (by rw [he]; simp)).2] at dc
        have e1 : (sIf ++ Ap a).size = 3 + (Ap a).size := by rw [ByteArray.size_append]; rfl
        have e2 : ((sIf ++ Ap a) ++ Mp).size = 9 + (Ap a).size := by rw [ByteArray.size_append, e1]; show 3 + _ + 6 = _; omega
        have e3 : (((sIf ++ Ap a) ++ Mp) ++ Ap b).size = 9 + (Ap a).size + (Ap b).size := by rw [ByteArray.size_append, e2]
        have e4 : ((((sIf ++ Ap a) ++ Mp) ++ Ap b) ++ Wj).size = 15 + (Ap a).size + (Ap b).size := by rw [ByteArray.size_append, e3]; show _ + 6 = _; omega
        refine Ib _ rfl rfl rfl rfl rfl (Cf (i := 0) (x := a) (by rw [he]; rfl)) (by omega) ?_
        repeat' (first | refine rl0 ?_ | refine rs0 (fun h => ?_) (fun h => ?_) | fail)
        refine wcn da rfl rfl rfl rfl rfl (by repeat (first | exact Ad | refine Aa (Ab _) ?_)) ?_
        refine wan rfl rfl (by show 3 + (Ap a).size <= _; omega) ?_
        refine wan rfl rfl (by show (sIf ++ Ap a).size + 6 <= _; omega) ?_
        repeat' (first | refine rl0 ?_ | refine rs0 (fun h => ?_) (fun h => ?_) | fail)
        refine Ib _ rfl rfl rfl rfl rfl (Cf (i := 1) (x := b) (by rw [he]; rfl)) (by omega) ?_
        repeat' (first | refine rl0 ?_ | refine rs0 (fun h => ?_) (fun h => ?_) | fail)
        refine wcn db rfl rfl rfl rfl rfl (by repeat (first | exact Ad | refine Aa (Ab _) ?_)) ?_
        refine wan rfl rfl (by show ((sIf ++ Ap a) ++ Mp).size + (Ap b).size <= _; omega) ?_
        refine wan rfl rfl (by show (((sIf ++ Ap a) ++ Mp) ++ Ap b).size + 6 <= _; omega) ?_
        repeat' (first | refine rl0 ?_ | refine rs0 (fun h => ?_) (fun h => ?_) | fail)
        refine Ib _ rfl rfl rfl rfl rfl (Cf (i := 2) (x := c) (by rw [he]; rfl)) (by omega) ?_
        repeat' (first | refine rl0 ?_ | refine rs0 (fun h => ?_) (fun h => ?_) | fail)
        refine wcn dc rfl rfl rfl rfl rfl (by repeat (first | exact Ad | refine Aa (Ab _) ?_)) ?_
        refine wan rfl rfl (by show ((((sIf ++ Ap a) ++ Mp) ++ Ap b) ++ Wj).size + (Ap c).size <= _; omega) ?_
        repeat' (first | refine rl0 ?_ | refine rs0 (fun h => ?_) (fun h => ?_) | fail)
        refine ⟨(), trivial, Ac rfl (Ac rfl (Ac (show PV.d (.v (.string _)) = _ from ?_) Ag)), rfl⟩
        rw [hc, he, Cd]; unfold Ph; rw [if_neg (by omega), if_neg (by omega), if_neg (by omega), if_neg (by omega)]
        simp only [List.map_cons, List.map_nil]; rw [if_pos ho]; rfl
      . rename_i g1 g2 g3
        simp at g1 g2 g3
        have h1 : Eu x.op = 1 := by simpa using h
        have hops : 5 <= x.op /\ x.op <= 18 := by omega
        obtain rfl := h5 hops.1 hops.2
        obtain ⟨a, he⟩ := Ag7 (by rw [hf.1]; omega : (x.args.length : Int) = 1)
        have ha := hsub a (by rw [he]; simp)
        have hwl : wtL x.args = wtX a + 0 := by rw [he]; rfl
        have hwr := Cy (Ap a, Ak a.op) (Ak x.op)
        have e1 : (C3 x.op ++ sSp).size = (C3 x.op).size + 1 := by rw [ByteArray.size_append]; rfl
        refine wan rfl rfl (by show (C3 x.op).size + 1 <= _; omega) ?_
        repeat' (first | refine rl0 ?_ | refine rs0 (fun h => ?_) (fun h => ?_) | fail)
        refine Ib _ rfl rfl rfl rfl rfl (Cf (i := 0) (x := a) (by rw [he]; rfl)) (by omega) ?_
        repeat' (first | refine rl0 ?_ | refine rs0 (fun h => ?_) (fun h => ?_) | fail)
        refine wcn (ha.1 (Ak x.op) (by omega) (by omega)) rfl rfl rfl rfl rfl (by repeat (first | exact Ad | refine Aa (Ab _) ?_)) ?_
        refine wan rfl rfl (by show (C3 x.op ++ sSp).size + (F5 (Ap a, Ak a.op) (Ak x.op)).size <= _; dsimp only at hwr; omega) ?_
        repeat' (first | refine rl0 ?_ | refine rs0 (fun h => ?_) (fun h => ?_) | fail)
        refine ⟨(), trivial, Ac rfl (Ac rfl (Ac (show PV.d (.v (.string _)) = _ from ?_) Ag)), rfl⟩
        rw [hc, Ev hops, he, Cd]; rfl
      . rename_i g1 g2 g3 g4
        simp at g1 g2 g3 g4
        have h4' : Ak x.op = 4 := by simpa using h
        have hops : 5 <= x.op /\ x.op <= 18 := by omega
        obtain rfl := h5 hops.1 hops.2
        obtain ⟨a, b, he⟩ := Th (by rw [hf.1]; omega : (x.args.length : Int) = 2)
        have ha := hsub a (by rw [he]; simp)
        have hb := hsub b (by rw [he]; simp)
        have hwl : wtL x.args = wtX a + (wtX b + 0) := by rw [he]; rfl
        have w1 := Cy (Ap a, Ak a.op) 5
        have w2 := Cy (Ap b, Ak b.op) 5
        have dA := ha.1 5 (by omega) (by omega)
        have dB := hb.1 5 (by omega) (by omega)
        dsimp only at w1 w2
        generalize hA : F5 (Ap a, Ak a.op) 5 = A at w1 dA
        generalize hB : F5 (Ap b, Ak b.op) 5 = B at w2 dB
        have e1 : (A ++ sSp).size = A.size + 1 := by rw [ByteArray.size_append]; rfl
        have e2 : ((A ++ sSp) ++ C3 x.op).size = A.size + 1 + (C3 x.op).size := by rw [ByteArray.size_append, e1]
        have e3 : (((A ++ sSp) ++ C3 x.op) ++ sSp).size = A.size + 1 + (C3 x.op).size + 1 := by rw [ByteArray.size_append, e2]; rfl
        refine Ib _ rfl rfl rfl rfl rfl (Cf (i := 0) (x := a) (by rw [he]; rfl)) (by omega) ?_
        repeat' (first | refine rl0 ?_ | refine rs0 (fun h => ?_) (fun h => ?_) | fail)
        refine wcn dA rfl rfl rfl rfl rfl (by repeat (first | exact Ad | refine Aa (Ab _) ?_)) ?_
        refine wan rfl rfl (by show A.size + 1 <= _; omega) ?_
        repeat' (first | refine rl0 ?_ | refine rs0 (fun h => ?_) (fun h => ?_) | fail)
        refine wan rfl rfl (by show (A ++ sSp).size + (C3 x.op).size <= _; omega) ?_
        refine wan rfl rfl (by show ((A ++ sSp) ++ C3 x.op).size + 1 <= _; omega) ?_
        repeat' (first | refine rl0 ?_ | refine rs0 (fun h => ?_) (fun h => ?_) | fail)
        refine Ib _ rfl rfl rfl rfl rfl (Cf (i := 1) (x := b) (by rw [he]; rfl)) (by omega) ?_
        repeat' (first | refine rl0 ?_ | refine rs0 (fun h => ?_) (fun h => ?_) | fail)
        refine wcn dB rfl rfl rfl rfl rfl (by repeat (first | exact Ad | refine Aa (Ab _) ?_)) ?_
        refine wan rfl rfl (by show (((A ++ sSp) ++ C3 x.op) ++ sSp).size + B.size <= _; omega) ?_
        repeat' (first | refine rl0 ?_ | refine rs0 (fun h => ?_) (fun h => ?_) | fail)
        refine ⟨(), trivial, Ac rfl (Ac rfl (Ac (show PV.d (.v (.string _)) = _ from ?_) Ag)), rfl⟩
        rw [hc, Ev hops, he, Cd]
        simp only [List.map_cons, List.map_nil]
        rw [hA, hB]
        rw [if_pos h4']; rfl
      . rename_i g1 g2 g3 g4 g5
        simp at g1 g2 g3 g4 g5
        have h2 : Eu x.op = 2 := by simpa using h
        have hops : 5 <= x.op /\ x.op <= 18 := by omega
        obtain rfl := h5 hops.1 hops.2
        obtain ⟨a, b, he⟩ := Th (by rw [hf.1]; omega : (x.args.length : Int) = 2)
        have ha := hsub a (by rw [he]; simp)
        have hb := hsub b (by rw [he]; simp)
        have hwl : wtL x.args = wtX a + (wtX b + 0) := by rw [he]; rfl
        have w1 := Cy (Ap a, Ak a.op) (Ak x.op)
        have w2 := Cy (Ap b, Ak b.op) (Ak x.op + 1)
        have dA := ha.1 (Ak x.op) (by omega) (by omega)
        have dB := hb.1 (Ak x.op + 1) (by omega) (by omega)
        dsimp only at w1 w2
        generalize hA : F5 (Ap a, Ak a.op) (Ak x.op) = A at w1 dA
        generalize hB : F5 (Ap b, Ak b.op) (Ak x.op + 1) = B at w2 dB
        have e1 : (A ++ sSp).size = A.size + 1 := by rw [ByteArray.size_append]; rfl
        have e2 : ((A ++ sSp) ++ C3 x.op).size = A.size + 1 + (C3 x.op).size := by rw [ByteArray.size_append, e1]
        have e3 : (((A ++ sSp) ++ C3 x.op) ++ sSp).size = A.size + 1 + (C3 x.op).size + 1 := by rw [ByteArray.size_append, e2]; rfl
        refine Ib _ rfl rfl rfl rfl rfl (Cf (i := 0) (x := a) (by rw [he]; rfl)) (by omega) ?_
        repeat' (first | refine rl0 ?_ | refine rs0 (fun h => ?_) (fun h => ?_) | fail)
        refine wcn dA rfl rfl rfl rfl rfl (by repeat (first | exact Ad | refine Aa (Ab _) ?_)) ?_
        refine wan rfl rfl (by show A.size + 1 <= _; omega) ?_
        repeat' (first | refine rl0 ?_ | refine rs0 (fun h => ?_) (fun h => ?_) | fail)
        refine wan rfl rfl (by show (A ++ sSp).size + (C3 x.op).size <= _; omega) ?_
        refine wan rfl rfl (by show ((A ++ sSp) ++ C3 x.op).size + 1 <= _; omega) ?_
        repeat' (first | refine rl0 ?_ | refine rs0 (fun h => ?_) (fun h => ?_) | fail)
        refine Ib _ rfl rfl rfl rfl rfl (Cf (i := 1) (x := b) (by rw [he]; rfl)) (by omega) ?_
        repeat' (first | refine rl0 ?_ | refine rs0 (fun h => ?_) (fun h => ?_) | fail)
        refine wcn dB rfl rfl rfl rfl rfl (by repeat (first | exact Ad | refine Aa (Ab _) ?_)) ?_
        refine wan rfl rfl (by show (((A ++ sSp) ++ C3 x.op) ++ sSp).size + B.size <= _; omega) ?_
        repeat' (first | refine rl0 ?_ | refine rs0 (fun h => ?_) (fun h => ?_) | fail)
        refine ⟨(), trivial, Ac rfl (Ac rfl (Ac (show PV.d (.v (.string _)) = _ from ?_) Ag)), rfl⟩
        rw [hc, Ev hops, he, Cd]
        simp only [List.map_cons, List.map_nil]
        rw [hA, hB]
        rw [if_neg g5]; rfl
      . rename_i g1 g2 g3 g4 g5
        simp at g1 g2 g3 g4 g5 h
        refine ⟨(), trivial, Ac rfl (Ac rfl (Ac (show PV.d (.v (.string _)) = _ from ?_) Ag)), rfl⟩
        rw [hc]; unfold Ph
        rcases hcs.2.2 with ⟨h1, _⟩ | ⟨h1, _⟩ | ⟨h1, h2, h3⟩
        . rcases h1 with h1 | h1 | h1 | h1
          . omega
          . omega
          . rw [if_neg (by omega), if_neg (by omega), if_pos h1]; exact congrArg _ (congrArg _ (congrArg _ (h3 h1)))
          . rw [if_neg (by omega), if_neg (by omega), if_neg (by omega), if_pos h1]; exact congrArg _ (congrArg _ (congrArg _ (h4 h1)))
        . omega
        . omega
    have e1 : (Wk ++ Ap x).size <= 1000002 := by simp only [ByteArray.size_append]; show 2 + _ <= _; omega
    repeat' (first | refine rl0 ?_ | refine rs0 (fun h => ?_) (fun h => ?_) | fail)
    . refine wst rfl rfl (by show 2 + (Ap x).size <= _; omega) ?_
      refine wst rfl rfl (by show (Wk ++ Ap x).size + 2 <= _; omega) ?_
      repeat' (first | refine rl0 ?_ | refine rs0 (fun h => ?_) (fun h => ?_) | fail)
      rw [show F5 (Ap x, Ak x.op) k = (Wk ++ Ap x) ++ Ahm from if_pos (by simpa using h)]; rfl
    . rw [show F5 (Ap x, Ak x.op) k = Ap x from if_neg (by simpa using h)]
end Go.Proofs.YtiledamgmppcmaaGreatDoor
namespace Go.Proofs.YtiledamgmppcmaaGreatDoor
open Go.RowKit
theorem name_12 {l : List UInt8} (h : B5 1 l 0 = 0) : l.length <= 12 := by
  unfold B5 at h
  split at h
  . omega
  . rename_i hc
    simp only [not_or] at hc
    have h1 : Ay 1 l = true := by simpa using hc.2.2
    have h2 : Ei l = true := h1
    rw [Ea] at h2
    simp only [Bool.and_eq_true, decide_eq_true_eq] at h2
    exact h2.1.2
theorem plain_wt {x : Ex} (h : Cl x = true) : x.name.size <= 12 := by
  simp only [Cl, Bool.and_eq_true] at h
  have h2 := h.2
  split at h2
  . have := name_12 (by simpa using h2); simpa using this
  . have : x.name.size = 0 := by simpa using h2
    omega
mutual
theorem vis_wt : ∀ (x : Ex) (left d k : Nat), vis left d x = some k -> x.fine = true /\ wtX x + 52 * k <= 52 * left
  | .mk o n s l, left, d, k, h => by
    rw [vis] at h
    split at h
    . simp at h
    . rename_i hc
      simp only [not_or] at hc
      have hp : Cl (.mk o n s l) = true := by simpa using hc.2.2
      have hw := plain_wt hp
      simp only [Cl, Bool.and_eq_true, decide_eq_true_eq] at hp
      obtain ⟨h1, h2⟩ := Ao9 l _ _ _ h
      simp only [Ex.fine, Bool.and_eq_true, decide_eq_true_eq]
      refine ⟨⟨⟨⟨hp.1.1.1.1, hp.1.1.1.2⟩, hp.1.1.2⟩, h1⟩, ?_⟩
      rw [wtX]
      simp only [Ex.name] at hw
      omega
theorem Ao9 : ∀ (l : List Ex) (left d k : Nat), Dt left d l = some k -> Abv l = true /\ wtL l + 52 * k <= 52 * left
  | [], left, d, k, h => by
    rw [Dt] at h; cases h
    exact ⟨rfl, by rw [wtL]; omega⟩
  | x :: r, left, d, k, h => by
    rw [Dt] at h
    split at h
    . cases h
    . rename_i j e
      obtain ⟨h1, h2⟩ := vis_wt x _ _ _ e
      obtain ⟨h3, h4⟩ := Ao9 r _ _ _ h
      refine ⟨by simp only [Abv, h1, h3, Bool.and_self], ?_⟩
      rw [wtL]; omega
end
theorem V6 {x : Ex} (h : Bg x = 0) : x.fine = true /\ wtX x <= 1000000 := by
  have := (Cr x).1 h
  unfold Ge at this
  obtain ⟨k, hk⟩ := Option.isSome_iff_exists.1 this
  obtain ⟨h1, h2⟩ := vis_wt x _ _ _ hk
  exact ⟨h1, by omega⟩
theorem fine_op {x : Ex} (h : x.fine = true) : 1 <= x.op /\ x.op <= 19 := by
  have := (Tw h).1
  unfold Eu at this
  repeat' split at this
  all_goals omega
theorem wrap0 {x : Ex} (h : x.fine = true) : F5 (Ap x, Ak x.op) 0 = Ap x := if_neg (by have h1 := fine_op h; have := ar_lv h1.1 h1.2; simp only; omega)
def Vv (x : Ex) : ByteArray × Int := if Bg x = 0 then (Ap x, 0) else (⟨#[]⟩, 350)
theorem Vh (x : Ex) (hs : x.small) : An 16 [exP x] ⟨[], []⟩ (.ret (.tup [By (Vv x).1, Ai (Vv x).2])) ⟨[], []⟩ := by
  refine Af Tryz.func16 rfl rfl (Nat.le_of_ble_eq_true rfl) rfl (Nat.le_refl _) ?_
  repeat' (first | refine rl0 ?_ | refine rs0 (fun h => ?_) (fun h => ?_) | fail)
  refine D3 (F7 x hs) rfl rfl rfl rfl rfl (by repeat (first | exact Ad | refine Aa (Ab _) ?_)) ?_
  repeat' (first | refine rl0 ?_ | refine rs0 (fun h => ?_) (fun h => ?_) | fail)
  . rw [show Vv x = (⟨#[]⟩, Bg x) from by unfold Vv Bg at *; split <;> simp_all]
  have hc : Bg x = 0 := by simpa using h
  have hf := V6 hc
  have hd := text_do x.hgt x (Nat.le_refl _) hf.1 hf.2 0 (by omega) (by omega)
  rw [wrap0 hf.1] at hd
  refine D3 hd rfl rfl rfl rfl rfl (by repeat (first | exact Ad | refine Aa (Ab _) ?_)) ?_
  repeat' (first | refine rl0 ?_ | refine rs0 (fun h => ?_) (fun h => ?_) | fail)
  rw [show Vv x = (Ap x, 0) from if_pos hc]
end Go.Proofs.YtiledamgmppcmaaGreatDoor
namespace Go.Proofs.YtiledamgmppcmaaGreatDoor
open Go.RowKit
def dsts (ops : List Oper) : List Nat := ops.filterMap (·.dst)
def presQ (D : List Nat) (a0 : Act) (Q : Exit -> Act -> World -> Prop) (e : Exit) (a' : Act) (w' : World) : Prop := Q e a' w' /\ ∀ ch, e = .panic ch -> ∀ t, t ∉ D -> a'.tmps.getD t undef = a0.tmps.getD t undef
theorem Aje {a : Act} {dst : Option Tmp} {v : Value} {D : List Nat} (hd : ∀ d, dst = some d -> d ∈ D) {t : Nat} (ht : t ∉ D) : (a.put dst v).tmps.getD t undef = a.tmps.getD t undef := by
  cases dst with
  | none => rfl
  | some d =>
    have hne : d ≠ t := fun e => ht (by rw [<- e]; exact hd d rfl)
    simp [Act.put, Array.getD_eq_getD_getElem?, Array.getElem?_setIfInBounds, hne]
theorem Xb {D : List Nat} {a0 : Act} {Q : Exit -> Act -> World -> Prop} (h : LetsOut Q) : LetsOut (presQ D a0 Q) := let ⟨a, w, h⟩ := h; ⟨a, w, h, fun _ e => by cases e⟩
theorem pres_op {F : Fence} {n : Nat} {P : Program} {o : Oper} {Q : Exit -> Act -> World -> Prop} {D : List Nat} {a0 a : Act} {w : World} {K K' : Act -> World -> Prop} (hd : ∀ d, o.dst = some d -> d ∈ D) (ha : ∀ t, t ∉ D -> a.tmps.getD t undef = a0.tmps.getD t undef)
    (hK : ∀ a' w', (∀ t, t ∉ D -> a'.tmps.getD t undef = a0.tmps.getD t undef) -> K a' w' -> K' a' w') (h : o.wpIn F n P a w K Q) : o.wpIn F n P a w K' (presQ D a0 Q) := by
  have hp : ∀ (a1 : Act) (v : Value), a1.tmps = a.tmps -> ∀ t, t ∉ D -> (a1.put o.dst v).tmps.getD t undef = a0.tmps.getD t undef := fun a1 v e t ht => by
    rw [Aje hd ht, e]; exact ha t ht
  unfold Oper.wpIn at *
  refine ⟨h.1, ?_⟩
  have h := h.2
  generalize (o.semAt F.round a.eval).run P w = r at *
  cases r with
  | ok x w' =>
    cases x <;> simp only [Oper.uponIn] at h |- <;>
      first
        | exact hK _ _ (hp _ _ rfl) h
        | exact ⟨h.1, CallsIn.mono h.2 (fun e w'' he => by cases e <;> first | exact hK _ _ (hp _ _ rfl) he | exact ⟨he, fun _ _ => ha⟩ | exact Xb he)⟩
        | exact ⟨h.1, RowsIn.mono h.2 (fun _ _ he => hK _ _ (hp _ _ rfl) he)⟩
        | exact ⟨h.1, RoundIn.mono h.2 (fun e w'' he => by cases e <;> first | exact hK _ _ (hp _ _ rfl) he | exact ⟨he, fun _ _ => ha⟩ | exact Xb he)⟩
  | halt x w' => cases x <;> simp only [Oper.uponIn] at h |- <;> first | exact ⟨h, fun _ _ => ha⟩ | exact h
theorem Y1 {F : Fence} {n : Nat} {P : Program} {ops : Array Oper} {Q : Exit -> Act -> World -> Prop} {D : List Nat} {a0 : Act} : ∀ (rest : List Oper) (a : Act) (w : World), (∀ o ∈ rest, ∀ d, o.dst = some d -> d ∈ D) -> (∀ t, t ∉ D -> a.tmps.getD t undef = a0.tmps.getD t undef) ->
    wpListIn F n P ops Q rest a w -> wpListIn F n P ops (presQ D a0 Q) rest a w
  | [], a, w, _, _, h => ⟨h, fun _ e => by cases e⟩
  | o :: rest, a, w, hd, ha, h => by
    unfold wpListIn at h |-
    have hd0 := hd o (by simp)
    have hdr : ∀ o ∈ rest, ∀ d, o.dst = some d -> d ∈ D := fun o ho => hd o (by simp [ho])
    split at h
    . rename_i hw
      rw [if_pos hw]
      exact pres_op hd0 ha (fun a' w' ha' h' => Y1 rest a' w' hdr ha' h') h
    . rename_i hw
      rw [if_neg hw]
      exact ⟨h.1, Y1 rest _ w hdr (fun t ht => by rw [Aje hd0 ht]; exact ha t ht) h.2⟩
theorem Jd {F : Fence} {n : Nat} {P : Program} {ops : Array Oper} {Q Q' : Exit -> Act -> World -> Prop} (hq : ∀ e a w, Q e a w -> Q' e a w) : ∀ (rest : List Oper) (a : Act) (w : World), wpListIn F n P ops Q rest a w -> wpListIn F n P ops Q' rest a w
  | [], a, w, h => hq _ _ _ h
  | o :: rest, a, w, h => by
    unfold wpListIn at h |-
    split at h
    . rename_i hw
      rw [if_pos hw]
      unfold Oper.wpIn at *
      refine ⟨h.1, ?_⟩
      have h := h.2
      generalize (o.semAt F.round a.eval).run P w = r at *
      cases r with
      | ok x w' =>
        cases x <;> simp only [Oper.uponIn] at h |- <;>
          first
            | exact Jd hq rest _ _ h
            | exact ⟨h.1, CallsIn.mono h.2 (fun e w'' he => by cases e <;> first | exact Jd hq rest _ _ he | exact hq _ _ _ he | exact let ⟨a, w, h⟩ := he; ⟨a, w, hq _ _ _ h⟩)⟩
            | exact ⟨h.1, RowsIn.mono h.2 (fun _ _ he => Jd hq rest _ _ he)⟩
            | exact ⟨h.1, RoundIn.mono h.2 (fun e w'' he => by cases e <;> first | exact Jd hq rest _ _ he | exact hq _ _ _ he | exact let ⟨a, w, h⟩ := he; ⟨a, w, hq _ _ _ h⟩)⟩
      | halt x w' => cases x <;> simp only [Oper.uponIn] at h |- <;> first | exact hq _ _ _ h | exact h
    . rename_i hw
      rw [if_neg hw]
      exact ⟨h.1, Jd hq rest _ w h.2⟩
def frP (D : List Nat) (F : Nat -> PV) : Nat -> PV := fun t => bif D.any (Nat.beq t) then .any else F t
def resQP (D : List Nat) (F0 : Nat -> PV) (Q : Exit -> (Nat -> PV) -> PS -> Prop) : WRes -> Prop
  | .done F S => Q .normal F S
  | .panic c S => Q (.panic [{ v := c, recovered := false }]) (frP D F0) S
theorem frP_rep {K K' : Kx} {w w' : World} {N : Nat} {F : Nat -> PV} {a a' : Act} {D : List Nat} (hF : FrameRep K w N F a) (hs : Step K K' w w') (hsz : a'.tmps.size = N) (h : ∀ t, t ∉ D -> a'.tmps.getD t undef = a.tmps.getD t undef) : FrameRep K' w' N (frP D F) a' := by
  refine ⟨hsz, fun t => ?_⟩
  unfold frP
  cases e : D.any (Nat.beq t) with
  | true => simp [Rep]
  | false =>
    simp only [cond_false]
    rw [h t fun hm => by rw [List.any_eq_false] at e; exact e t hm (by simp)]
    exact Rep.step hs _ _ (hF.rep t)
theorem Aa3 {P : Program} {N id : Nat} {ops : List Oper} {Q : Exit -> (Nat -> PV) -> PS -> Prop} {F : Nat -> PV} {S : PS} (h : WK P N ops.toArray ops F S (resQP (dsts ops) F Q)) : PW P N (.region id ops.toArray false) Q F S := by
  refine ⟨fun ro mm K w a hI hF => ?_⟩
  obtain ⟨res, h1, h2⟩ := h.ex
  refine wpIn_region_lit ?_
  have h3 := h1.sound (Q := fun e a' w' => (e = .normal /\ QC K w a.defers N (fun _ F S => res = .done F S) e a' w') \/ ∃ c S', res = .panic c S' /\ e = .panic [{ v := c, recovered := false }] /\ ∃ K', Step K K' w w' /\ Inv K' S' w' /\ a'.tmps.size = N /\ a'.defers = a.defers) ro mm K K S w w a hI (Step.refl K w) hI hF ?_
  . refine Jd (fun e a' w' hq => ?_) ops a w (Y1 (D := dsts ops) (a0 := a) ops a w (fun o ho d hd => List.mem_filterMap.2 ⟨o, ho, hd⟩) (fun _ _ => rfl) h3)
    obtain ⟨hq, hp⟩ := hq
    rcases hq with ⟨rfl, K', F', S', q1, q2, q3, q4, q5⟩ | ⟨c, S', rfl, rfl, K', q1, q2, q3, q4⟩
    . rw [q5] at h2
      exact ⟨K', F', S', q1, q2, q3, q4, h2⟩
    . exact ⟨K', _, S', q1, q2, frP_rep hF q1 q3 (hp _ rfl), q4, h2⟩
  . cases res with
    | done F1 S1 => exact fun K' a' w' s1 s2 s3 s4 => .inl ⟨rfl, K', F1, S1, s1, s2, s3, s4, rfl⟩
    | panic c S1 => exact fun K' a' w' s1 s2 s3 s4 => .inr ⟨c, S1, rfl, rfl, K', s1, s2, s3, s4⟩
end Go.Proofs.YtiledamgmppcmaaGreatDoor
namespace Go.Proofs.YtiledamgmppcmaaGreatDoor
open Go.RowKit
def Fv : Value := .iface 123 (.agg #[])
@[reducible] def paS (xc : List PV) (nx er : PV) (tk : PV) (at' : PV) : PS := ⟨[xc, [nx], [er], [tk, at'], [.ptr 3 0]], []⟩
theorem Ajy (w : World) : (Instr.typeAssert .nilIface 20 123 true).run Tryz.prog w = .ok (.tuple #[.agg #[], .bool false]) w := by kernel_rfl
theorem Ajx (w : World) : (Instr.typeAssert Fv 20 123 true).run Tryz.prog w = .ok (.tuple #[.agg #[], .bool true]) w := by kernel_rfl
theorem Pq (c0 c1 c2 c3 c4 : DV) (nx er : DV) (tk at' : DV) : EvD Tryz.prog 70 [.ptr 4 0, .ptr 0 0, .ptr 1 0, .ptr 2 0] (paS [.d c0, .d c1, .d c2, .d c3] (.d nx) (.d er) (.d tk) (.d at')) none (paS [.d c0, .d c1, .d c2, .d c3] (.d nx) (.d er) (.d tk) (.d at')) := by
  refine Xs Tryz.func70 rfl rfl (fun _ _ => rfl) rfl (Nat.le_of_ble_eq_true rfl) (by simp) rfl (Nat.le_refl _) ?_
  refine Kb rfl (Ve rfl rfl Ajy (by kernel_rfl)) ?_
  repeat' (first | refine rl0 ?_ | refine rs0 (fun h => ?_) (fun h => ?_) | fail)
  rfl
theorem pdef_mal (c0 c1 c2 c3 : DV) (nx er : DV) (tk : DV) (n : Int) : EvD Tryz.prog 70 [.ptr 4 0, .ptr 0 0, .ptr 1 0, .ptr 2 0] (paS [.d c0, .d c1, .d c2, .d c3] (.d nx) (.d er) (.d tk) (Ai n)) (some Fv) (paS D4 (Ai n) (Ai 350) (.d tk) (Ai n)) := by
  refine Xs Tryz.func70 rfl rfl (fun _ _ => rfl) rfl (Nat.le_of_ble_eq_true rfl) (fun c e => by cases e; rfl) rfl (Nat.le_refl _) ?_
  refine Kb rfl (Ve rfl rfl Ajx (by kernel_rfl)) ?_
  repeat' (first | refine rl0 ?_ | refine rs0 (fun h => ?_) (fun h => ?_) | fail)
  rfl
section
variable {N : Nat} {ops : Array Oper} {rest : List Oper} {o : Oper} {F : Nat -> PV} {S : PS} {q : WRes -> Prop} {ch : Nat -> Bool} {U Ut : List Nat} {k : Nat} {bm : Bool} {D : List Nat}
theorem wafl {t : TypeId} {x : Operand} {id off : Nat} {c : List PV} {p : PV} (hg : Am ops F o = some true) (hc : ch k = false) (ho : o.op = .load t x) (hk : (Bq t && !(tyi t).isRow) = true) (hx : evP F x = .ptr id off) (hU : id ∈ U) (hb : S.boxes[id]? = some c) (hp : c[off]? = some p)
    (kk : WA Tryz.prog N ops ch U Ut (k + 1) rest (Ch N o.dst p F) S bm D q) : WA Tryz.prog N ops ch U Ut k (o :: rest) F S bm D q := by
  simp only [Bool.and_eq_true, Bool.not_eq_true'] at hk
  exact Sm hg hc (fun S' ha => Qj ho (Gl t hk.1) hk.2 hx (by rw [ha.boxes id hU]; exact hb) hp) kk
end
@[reducible] def paK (rows : List (List DV)) (n : Int) : PS := ⟨[[.d (.sl 3 rows), Ai n]], []⟩
theorem H5 (g : Nat) (f : Func) (h1 : Tryz.prog.funcs[g]? = some f) (h2 : (f.name == "runtime.NumGoroutine") = false) (h3 : f.body.isSome = true) : ∀ args w, (callFunc g args).run Tryz.prog w = .ok (.enter g args) w := by
  obtain ⟨c, hc⟩ := Option.isSome_iff_exists.1 h3
  exact enters_of h1 h2 hc
theorem S9 {rows : List (List DV)} {a n : Int} {x : Ex} (h0 : 0 <= a /\ a <= rows.length) (hidx : An 67 [.d (.sl 3 rows), .fn 68 []] ⟨[], []⟩ (.ret (Ai (-1))) ⟨[], []⟩)
    (hx : An 71 [.ptr 0 0] (paK rows a) (.ret (exP x)) (paK rows n)) (hs : x.small) (hc : Bg x = 0) : An 29 [.d (.sl 3 rows), Ai a] ⟨[], []⟩ (.ret (.tup [exP x, Ai n, Ai 0])) ⟨[], []⟩ := by
  have hchk := F7 x hs
  rw [hc] at hchk
  refine ⟨enters_of Tryz.func29 rfl rfl, Dm H5 Tryz.func29 rfl (Nat.le_of_ble_eq_true rfl) rfl (Nat.le_refl _) ?_⟩
  refine Av (Bv ?_)
  repeat' (first | refine rl0 ?_ | refine rs0 (fun h => ?_) (fun h => ?_) | fail)
  refine Av (Bv ?_)
  repeat' (first | refine rl0 ?_ | refine rs0 (fun h => ?_) (fun h => ?_) | fail)
  . exfalso; simp at h; omega
  . exfalso; simp at h; omega
  refine Av (Bv ?_)
  repeat' (first | refine rl0 ?_ | refine rs0 (fun h => ?_) (fun h => ?_) | fail)
  refine D3 hidx rfl rfl rfl rfl rfl (by repeat (first | exact Ad | refine Aa (Ab _) ?_)) ?_
  repeat' (first | refine rl0 ?_ | refine rs0 (fun h => ?_) (fun h => ?_) | fail)
  refine Av (Bv ?_)
  repeat' (first | refine rl0 ?_ | refine rs0 (fun h => ?_) (fun h => ?_) | fail)
  refine Av (L7 rfl rfl rfl rfl rfl rfl (by decide) ?_)
  refine Av (Bv ?_)
  repeat' (first | refine rl0 ?_ | refine rs0 (fun h => ?_) (fun h => ?_) | fail)
  refine wcb (id := 3) hx rfl rfl rfl rfl rfl rfl rfl rfl (by repeat (first | exact Ad | refine Aa (Ab _) ?_)) rfl ?_
  repeat' (first | refine rl0 ?_ | refine rs0 (fun h => ?_) (fun h => ?_) | fail)
  refine Av (Bv ?_)
  repeat' (first | refine rl0 ?_ | refine rs0 (fun h => ?_) (fun h => ?_) | fail)
  refine D3 hchk rfl rfl rfl rfl rfl (by repeat (first | exact Ad | refine Aa (Ab _) ?_)) ?_
  repeat' (first | refine rl0 ?_ | refine rs0 (fun h => ?_) (fun h => ?_) | fail)
  refine Av (Bv ?_)
  refine Dx (fun k => Nat.ble 6 k) [3, 4] [] rfl (by kernel_rfl) ?_
  refine wapB rfl (by kernel_rfl) rfl rfl trivial ?_
  refine wafl (id := 4) rfl rfl rfl rfl rfl (by simp) rfl rfl ?_
  refine waf rfl rfl (fun _ _ => rfl) trivial ?_
  refine waf rfl rfl (fun _ _ => rfl) trivial ?_
  refine waf rfl rfl (fun _ _ => rfl) trivial ?_
  refine wafl (id := 3) rfl rfl rfl rfl rfl (by simp) rfl rfl ?_
  refine wac rfl rfl rfl rfl rfl trivial ⟨fun id hid => ?_, by simp⟩ ?_
  . simp at hid; rcases hid with rfl | rfl <;> rfl
  refine wac rfl rfl rfl rfl rfl trivial ⟨fun id hid => ?_, by simp⟩ ?_
  . simp at hid; rcases hid with rfl | rfl <;> rfl
  refine wac rfl rfl rfl rfl rfl trivial ⟨fun id hid => ?_, by simp⟩ ?_
  . simp at hid; rcases hid with rfl | rfl <;> rfl
  refine Gw ?_
  refine Bv (Jq ?_)
  exact ⟨none, .inl ⟨rfl, .inr rfl⟩, ⟨_, Tryz.func70, rfl, rfl⟩, _, Pq _ _ _ _ (.v (.bool true)) _ _ _ _, _, rfl, rfl, rfl, .inr rfl, _, B6 rfl, rfl, rfl⟩
theorem Pp {rows : List (List DV)} {a n : Int} (h0 : 0 <= a /\ a <= rows.length) (hidx : An 67 [.d (.sl 3 rows), .fn 68 []] ⟨[], []⟩ (.ret (Ai (-1))) ⟨[], []⟩)
    (hx : An 71 [.ptr 0 0] (paK rows a) (.panic Fv) (paK rows n)) : An 29 [.d (.sl 3 rows), Ai a] ⟨[], []⟩ (.ret (.tup [exP .nil, Ai n, Ai 350])) ⟨[], []⟩ := by
  refine A4 (r' := .tup [.agg D4, Ai n, Ai 350]) ?_ (by repeat' (first | exact Ad | refine Aa ?_ ?_ | exact Bo | exact Ab _ | refine A9 ?_ | refine Bh ?_))
  refine ⟨enters_of Tryz.func29 rfl rfl, Dm H5 Tryz.func29 rfl (Nat.le_of_ble_eq_true rfl) rfl (Nat.le_refl _) ?_⟩
  refine Av (Bv ?_)
  repeat' (first | refine rl0 ?_ | refine rs0 (fun h => ?_) (fun h => ?_) | fail)
  refine Av (Bv ?_)
  repeat' (first | refine rl0 ?_ | refine rs0 (fun h => ?_) (fun h => ?_) | fail)
  . exfalso; simp at h; omega
  . exfalso; simp at h; omega
  refine Av (Bv ?_)
  repeat' (first | refine rl0 ?_ | refine rs0 (fun h => ?_) (fun h => ?_) | fail)
  refine D3 hidx rfl rfl rfl rfl rfl (by repeat (first | exact Ad | refine Aa (Ab _) ?_)) ?_
  repeat' (first | refine rl0 ?_ | refine rs0 (fun h => ?_) (fun h => ?_) | fail)
  refine Av (Bv ?_)
  repeat' (first | refine rl0 ?_ | refine rs0 (fun h => ?_) (fun h => ?_) | fail)
  refine Av (L7 rfl rfl rfl rfl rfl rfl (by decide) ?_)
  refine Av (Bv ?_)
  refine Aa3 ?_
  repeat' (first | refine rl0 ?_ | refine rs0 (fun h => ?_) (fun h => ?_) | fail)
  refine wcbx (id := 3) hx rfl rfl rfl rfl rfl rfl rfl (by repeat (first | exact Ad | refine Aa (Ab _) ?_)) rfl ?_
  exact ⟨some Fv, .inr ⟨_, rfl, rfl⟩, ⟨_, Tryz.func70, rfl, rfl⟩, _, pdef_mal (.v (.int .i64 0)) (.v (.int .i64 0)) (.v (.string ⟨#[]⟩)) (.v (.slice none 0 0)) (.v (.int .i64 0)) (.v (.int .i64 0)) _ n, _, rfl, rfl, rfl, .inr rfl, _, B6 rfl, rfl, rfl⟩
end Go.Proofs.YtiledamgmppcmaaGreatDoor
namespace Go.Proofs.YtiledamgmppcmaaGreatDoor
open Go.RowKit
@[reducible] def tokE (t : Tok) : List DV := [.v (.int .i64 t.kind), .v (.string (Aq t.text)), .v (.int .i64 (t.pos : Int))]
@[reducible] def Aad (l : List Tok) : PV := .d (.sl 3 (l.map tokE))
theorem Tg {K : Kx} {w : World} {g : Nat} : ∀ {l : List Tok} {o : Nat}, (∀ j v, (Jb l)[j]? = some v -> w.cell? ⟨g, o + j, none⟩ = some v) -> Dd (K.good w) w 3 (l.map tokE) g o
  | [], o, _ => by simp [Dd]
  | t :: l, o, h => by
    simp only [List.map_cons, Dd]
    have hc : Jb (t :: l) = .int .i64 t.kind :: .string (Aq t.text) :: .int .i64 (t.pos : Int) :: Jb l := rfl
    rw [hc] at h
    refine ⟨rfl, ?_, Tg fun j v hj => ?_⟩
    . simp only [Bn]
      exact ⟨⟨_, h 0 _ rfl, by simp [Ef, Value.oneCell']⟩, ⟨_, h 1 _ rfl, by simp [Ef, Value.oneCell']⟩, ⟨_, h 2 _ rfl, by simp [Ef, Value.oneCell']⟩, trivial⟩
    . have := h (j + 3) v (by simpa using hj)
      rw [show o + (j + 3) = o + 3 + j by omega] at this
      exact this
theorem Ahq (s : ByteArray) : An 35 [By s] ⟨[], []⟩ (.ret (.tup [Aad (Cn s.data.toList).1, Ai ((Cn s.data.toList).2.1 : Int), Ai (Cn s.data.toList).2.2])) ⟨[], []⟩ := by
  refine ⟨enters_of Tryz.func35 rfl rfl, fun K w vs hI hA => ?_⟩
  simp only [Bm] at hA
  obtain ⟨u, us, rfl, hr, rfl⟩ := hA
  rw [Ej hr]
  refine (scan_any s w).mono ?_
  rintro e w' ⟨v, rfl, hT, hB⟩
  obtain ⟨h1, h2⟩ := hI.below hB
  refine ⟨K, h2, h1, _, rfl, ?_⟩
  simp only [Rep]
  refine ⟨_, rfl, ?_⟩
  simp only [Bm]
  refine ⟨_, _, rfl, ?_, _, _, rfl, Hf rfl, _, _, rfl, Hf rfl, rfl⟩
  obtain ⟨hlen, hv⟩ := hT
  simp only [Rep, Ef, List.length_map]
  rcases hv with ⟨rfl, h0⟩ | ⟨g, cap, cur, rfl, hg, hh, hn, hcap, hsz, hcur⟩
  . exact ⟨none, 0, by rw [h0], by omega, by omega, fun hne => by rw [List.length_eq_zero_iff] at h0; rw [h0] at hne; simp at hne⟩
  . refine ⟨_, cap, rfl, hn, by simpa [maxLen] using hcap, fun _ => ⟨g, 0, rfl, ?_, Tg fun j v hj => ?_⟩⟩
    . obtain ⟨f1, f2, f3⟩ := L8.new hI hg (Array.getElem?_eq_some_iff.1 hh).1
      exact ⟨f1, f2, fun hm => by have := hI.Mlt _ hm; omega, fun lo hm => by have := hI.Tlt _ _ hm; omega, fun t c lo ht hc => absurd hc (f3 t c lo ht)⟩
    . rw [Nat.zero_add, cell_of_row _ _ j _ _ _ hh]
      rw [<- hcur] at hj
      have hjl := (List.getElem?_eq_some_iff.1 hj).1
      rw [List.getElem?_take] at hj
      split at hj
      . simpa using hj
      . cases hj
end Go.Proofs.YtiledamgmppcmaaGreatDoor
namespace Go.Proofs.YtiledamgmppcmaaGreatDoor
open Go.RowKit
@[reducible] def tkP (k : Int) (s : ByteArray) (p : Int) : PV := .agg [Ai k, By s, Ai p]
theorem Am0 (k : Int) (s : ByteArray) (p : Int) (hs : s.size <= 9223372036854775807) : An 69 [tkP k s p] ⟨[], []⟩ (.ret (Ai (B5 k s.data.toList p))) ⟨[], []⟩ := by
  refine J4 Tryz.func69 rfl rfl rfl fun K w vs _ hA => ?_
  simp only [Bm, Rep, Ef] at hA
  obtain ⟨u, us, rfl, ⟨cs, rfl, u0, us0, rfl, r0, u1, us1, rfl, r1, u2, us2, rfl, r2, rfl⟩, rfl⟩ := hA
  rw [r0.1, r1.1, r2.1]
  exact Ad9 k s p w hs
theorem V4 (s : ByteArray) (n : Int) (hl : s.size <= 18) (h : Lib.atoi s.data.toList = some n) : An 216 [By s] ⟨[], []⟩ (.ret (.tup [Ai n, .d (.v .nilIface)])) ⟨[], []⟩ := by
  refine ⟨enters_of Tryz.func216 rfl rfl, fun K w vs hI hA => ?_⟩
  simp only [Bm] at hA
  obtain ⟨u, us, rfl, hr, rfl⟩ := hA
  rw [Ej hr]
  refine (Tryz.strconv_Atoi s n hl h w).mono ?_
  rintro e w' ⟨rfl, t, rfl⟩
  have hb := Lib.bytesWorld_below w 5 t
  obtain ⟨h1, h2⟩ := hI.below hb
  exact ⟨K, h2, h1, _, rfl, by simp [Rep, Bm, Ef, Value.oneCell']⟩
theorem pfn_do (k : Int) (s : ByteArray) (p : Int) (hs : s.size <= 9223372036854775807) : An 68 [tkP k s p] ⟨[], []⟩ (.ret (A7 (!decide (B5 k s.data.toList p = 0)))) ⟨[], []⟩ := by
  refine Af Tryz.func68 rfl rfl (Nat.le_of_ble_eq_true rfl) rfl (Nat.le_refl _) ?_
  repeat' (first | refine rl0 ?_ | refine rs0 (fun h => ?_) (fun h => ?_) | fail)
  refine D3 (Am0 k s p hs) rfl rfl rfl rfl rfl (by repeat (first | exact Ad | refine Aa (Ab _) ?_)) ?_
  repeat' (first | refine rl0 ?_ | refine rs0 (fun h => ?_) (fun h => ?_) | fail)
  rfl
end Go.Proofs.YtiledamgmppcmaaGreatDoor
namespace Go.Proofs.YtiledamgmppcmaaGreatDoor
open Go.RowKit
abbrev TkZ := Int × ByteArray × Int
@[reducible] def tkR (t : TkZ) : List DV := [.v (.int .i64 t.1), .v (.string t.2.1), .v (.int .i64 t.2.2)]
@[reducible] def Ll (l : List TkZ) : PV := .d (.sl 3 (l.map tkR))
def Xg (t : TkZ) : Bool := !decide (B5 t.1 t.2.1.data.toList t.2.2 = 0)
def Fr (l : List TkZ) : Int := match l.findIdx? Xg with | some i => i | none => -1
theorem Yr (l : List TkZ) (hs : ∀ t ∈ l, t.2.1.size <= 9223372036854775807) : An 67 [Ll l, .fn 68 []] ⟨[], []⟩ (.ret (Ai (Fr l))) ⟨[], []⟩ := by
  refine G5 Tryz.func67 rfl rfl (Nat.le_of_ble_eq_true rfl) rfl (Nat.le_refl _) ?_
  intro hf
  have hl : l.length <= 9223372036854775807 := by have := hf.1; simpa [Amo] using this
  repeat' (first | refine rl0 ?_ | refine rs0 (fun h => ?_) (fun h => ?_) | fail)
  refine Bt (ι := Nat) (ok := fun i => i <= l.length /\ (l.take i).any Xg = false) (L := fun i => [(0, Ll l), (1, .fn 68 []), (7, Ai (l.map tkR).length), (8, Ai i)]) (Sx := fun _ => ⟨[], []⟩) (μ := fun i => l.length - i) 0 ⟨Nat.zero_le _, by simp⟩ (by repeat (first | exact Ag | refine Ac rfl ?_)) rfl ?_
  rintro i ⟨hi, hm⟩
  repeat' (first | refine rl0 ?_ | refine rs0 (fun h => ?_) (fun h => ?_) | fail)
  . have hlt : i < l.length := by simpa using h
    obtain ⟨x, hx⟩ : ∃ x, l[i]? = some x := ⟨_, List.getElem?_eq_getElem hlt⟩
    refine wix _ rfl rfl rfl rfl rfl (Ku hx) (by omega) ?_
    repeat' (first | refine rl0 ?_ | refine rs0 (fun h => ?_) (fun h => ?_) | fail)
    refine D3 (pfn_do x.1 x.2.1 x.2.2 (hs x (List.mem_of_getElem? hx))) rfl rfl rfl rfl rfl (by repeat (first | exact Ad | refine Aa (Ab _) ?_)) ?_
    repeat' (first | refine rl0 ?_ | refine rs0 (fun h => ?_) (fun h => ?_) | fail)
    . rw [show Fr l = i from by unfold Fr; rw [Oh hx hm h]]
    . exact ⟨i + 1, ⟨by omega, Xp hx hm h⟩, by omega, (by repeat (first | exact Ag | refine Ac rfl ?_)), rfl⟩
  . rw [List.take_of_length_le (by simp at h; omega)] at hm
    rw [show Fr l = -1 from by unfold Fr; rw [List.findIdx?_eq_none_iff.2 (by rw [List.any_eq_false] at hm; intro x hx; simpa using hm x hx)]]
def orcA : Nat -> List PV -> PS -> Option (POut × PS) := fun f args S => match args with
  | [.d (.v (.string s))] => match S with
    | ⟨[], []⟩ => bif Nat.beq f 216 && Nat.ble s.size 18 then
        match Lib.atoi s.data.toList with
        | some n => some (.ret (.tup [Ai n, .d (.v .nilIface)]), ⟨[], []⟩)
        | none => none
      else none
    | _ => none
  | _ => none
theorem Ahd : Z2 orcA := by
  intro f args S out S' h
  unfold orcA at h
  split at h
  . rename_i s
    split at h
    . cases hb : (Nat.beq f 216 && Nat.ble s.size 18) with
      | false => rw [hb] at h; cases h
      | true =>
        rw [hb] at h
        simp only [Bool.and_eq_true] at hb
        obtain rfl := Nat.eq_of_beq_eq_true hb.1
        simp only [cond_true] at h
        split at h
        . rename_i n hn
          cases h
          exact V4 s n (Nat.le_of_ble_eq_true hb.2) hn
        . cases h
    . cases h
  . cases h
def rowsA : Nat -> Bool := fun f => [71, 111, 112, 113, 152, 153, 188, 189].any (Nat.beq f)
end Go.Proofs.YtiledamgmppcmaaGreatDoor
namespace Go.Proofs.YtiledamgmppcmaaGreatDoor
open Go.RowKit
theorem Ze (a b : Ex) : a.same b = (decide (a.op = b.op) && decide (a.n = b.n) && decide (a.name = b.name) && Ly a.args b.args) := by cases a; cases b; rfl
theorem Xc : ∀ {l l' : List Ex}, l.length ≠ l'.length -> Ly l l' = false
  | [], [], h => absurd rfl h
  | _ :: _, [], _ => rfl
  | [], _ :: _, _ => rfl
  | x :: l, y :: l', h => by simp only [Ly, Xc (l := l) (l' := l') (by simpa using h), Bool.and_false]
theorem Aa5 {l l' : List Ex} {i : Nat} {x y : Ex} (hx : l[i]? = some x) (hy : l'[i]? = some y) : Ly (l.drop i) (l'.drop i) = (x.same y && Ly (l.drop (i + 1)) (l'.drop (i + 1))) := by
  obtain ⟨h1, rfl⟩ := List.getElem?_eq_some_iff.1 hx
  obtain ⟨h2, rfl⟩ := List.getElem?_eq_some_iff.1 hy
  rw [List.drop_eq_getElem_cons h1, List.drop_eq_getElem_cons h2]; rfl
theorem Aoh {l l' : List Ex} {i : Nat} (h : l.length = l'.length) (hi : l.length <= i) : Ly (l.drop i) (l'.drop i) = true := by
  rw [List.drop_of_length_le hi, List.drop_of_length_le (by omega)]; rfl
set_option maxHeartbeats 1000000 in
theorem Wl : ∀ (n : Nat) (a b : Ex), a.hgt <= n -> An 31 [exP a, exP b] ⟨[], []⟩ (.ret (A7 (a.same b))) ⟨[], []⟩ := by
  intro n
  induction n with
  | zero => intro a b h; cases a; simp [Ex.hgt] at h
  | succ n ih =>
    intro a b hn
    refine G5 Tryz.func31 rfl rfl (Nat.le_of_ble_eq_true rfl) rfl (Nat.le_refl _) ?_
    intro hf
    repeat' (first | refine rl0 ?_ | refine rs0 (fun h => ?_) (fun h => ?_) | fail)
    . rw [Ze]; simp_all
    . rw [Ze]; simp_all
    . rw [Ze]; simp_all
    . rw [Ze, Xc]
      . simp
      . rw [<- A6, <- A6 b.args]; intro e; rw [e] at h; simp at h
    rename_i h1 h2 h3
    have hlen : a.args.length = b.args.length := by
      rw [<- A6, <- A6 b.args]; simp at h; omega
    have hfit : a.args.length <= 9223372036854775807 := by
      rw [<- A6]; exact hf.1.2.2.2.1
    refine Bt (ι := Nat) (ok := fun i => i <= a.args.length /\ a.same b = Ly (a.args.drop i) (b.args.drop i)) (L := fun i => [(2, .ptr 0 0), (3, .ptr 1 0), (5, Ai i)]) (Sx := fun _ => ⟨[(exP a).parts, (exP b).parts], []⟩) (μ := fun i => a.args.length - i) 0 ⟨Nat.zero_le _, ?_⟩ (by repeat (first | exact Ag | refine Ac rfl ?_)) rfl ?_
    . rw [Ze]; simp_all
    rintro i ⟨hi, hm⟩
    repeat' (first | refine rl0 ?_ | refine rs0 (fun h => ?_) (fun h => ?_) | fail)
    . have hlt : i < a.args.length := by rw [A6] at h; simpa using h
      obtain ⟨x, hx⟩ : ∃ x, a.args[i]? = some x := ⟨_, List.getElem?_eq_getElem hlt⟩
      obtain ⟨y, hy⟩ : ∃ y, b.args[i]? = some y := ⟨_, List.getElem?_eq_getElem (by omega)⟩
      refine Ib _ rfl rfl rfl rfl rfl (Cf hx) (by omega) ?_
      repeat' (first | refine rl5 ?_ | refine rs5 (fun h => ?_) (fun h => ?_) | fail)
      refine Ib _ rfl rfl rfl rfl rfl (Cf hy) (by omega) ?_
      repeat' (first | refine rl5 ?_ | refine rs5 (fun h => ?_) (fun h => ?_) | fail)
      have := Mn (List.mem_of_getElem? hx)
      refine wcn (ih x y (by omega)) rfl rfl rfl rfl rfl (by repeat (first | exact Ad | refine Aa (Ab _) ?_)) ?_
      repeat' (first | refine rl0 ?_ | refine rs0 (fun h => ?_) (fun h => ?_) | fail)
      . rw [hm, Aa5 hx hy]; simp_all
      . exact ⟨i + 1, ⟨by omega, by rw [hm, Aa5 hx hy]; simp_all⟩, by omega, (by repeat (first | exact Ag | refine Ac rfl ?_)), rfl⟩
    . rw [hm, Aoh hlen (by rw [A6] at h; simp at h; omega)]
end Go.Proofs.YtiledamgmppcmaaGreatDoor
namespace Go.Proofs.YtiledamgmppcmaaGreatDoor
open Go.RowKit
def normV : Value -> DV
  | .slice none 0 0 => .sl 4 []
  | x => .v x
mutual
def Anf : DV -> DV
  | .v x => normV x
  | .sl k l => .sl k (Ag3 l)
def Ag2 : List DV -> List DV
  | [] => []
  | c :: r => Anf c :: Ag2 r
def Ag3 : List (List DV) -> List (List DV)
  | [] => []
  | e :: r => Ag2 e :: Ag3 r
end
theorem Vc : ∀ l : List (List DV), (Ag3 l).length = l.length
  | [] => rfl
  | _ :: r => by simp [Ag3, Vc r]
theorem Ae1 : ∀ l : List DV, (Ag2 l).length = l.length
  | [] => rfl
  | _ :: r => by simp [Ag2, Ae1 r]
theorem Ang {G : Nat -> Nat -> Prop} {w : World} {x u : Value} (h : Ef G w (.v x) u) : Ef G w (normV x) u := by
  unfold normV
  split
  . simp only [Ef] at h |-
    exact ⟨none, 0, h.1, Nat.le_refl _, by omega, fun hne => absurd rfl hne⟩
  . exact h
mutual
theorem Ae3 {G : Nat -> Nat -> Prop} {w : World} : ∀ {c : DV} {u : Value}, Ef G w c u -> Ef G w (Anf c) u
  | .v x, u, h => by rw [Anf]; exact Ang h
  | .sl k l, u, h => by
    simp only [Anf, Ef] at h |-
    obtain ⟨p, cap, e, h1, h2, h3⟩ := h
    refine ⟨p, cap, by rw [Vc]; exact e, by rw [Vc]; exact h1, h2, fun hne => ?_⟩
    obtain ⟨b, o, e1, h4, h5⟩ := h3 (by rintro rfl; exact hne rfl)
    exact ⟨b, o, e1, by rw [Vc]; exact h4, Ae4 h5⟩
theorem Ae2 {G : Nat -> Nat -> Prop} {w : World} {b : Nat} : ∀ {l : List DV} {o : Nat}, Bn G w l b o -> Bn G w (Ag2 l) b o
  | [], _, _ => by simp [Ag2, Bn]
  | c :: r, o, h => by
    simp only [Ag2, Bn] at h |-
    obtain ⟨⟨u, h1, h2⟩, h3⟩ := h
    exact ⟨⟨u, h1, Ae3 h2⟩, Ae2 h3⟩
theorem Ae4 {G : Nat -> Nat -> Prop} {w : World} {k b : Nat} : ∀ {l : List (List DV)} {o : Nat}, Dd G w k l b o -> Dd G w k (Ag3 l) b o
  | [], _, _ => by simp [Ag3, Dd]
  | e :: r, o, h => by
    simp only [Ag3, Dd] at h |-
    exact ⟨by rw [Ae1]; exact h.1, Ae2 h.2.1, Ae4 h.2.2⟩
end
def normX : PV -> PV
  | .agg [.d a, .d b, .d c, .d e] => .agg [.d a, .d b, .d c, .d (Anf e)]
  | p => p
theorem Ae5 (S : PS) (p : PV) : Coe S p (normX p) := by
  unfold normX
  split
  . refine A9 (Aa (Ab _) (Aa (Ab _) (Aa (Ab _) (Aa ?_ Ad))))
    intro K w u _ h
    simp only [Rep] at h |-
    exact Ae3 h
  . exact Ab _
def Mt (t : Tok) : TkZ := (t.kind, Aq t.text, t.pos)
theorem Lh (l : List Tok) : Aad l = Ll (l.map Mt) := by
  simp only [Aad, Ll, List.map_map]; rfl
theorem Yz {s : ByteArray} {x : Ex} {n e : Int} (h0 : (Cn s.data.toList).2.2 = 0) (hp : An 29 [Aad (Cn s.data.toList).1, Ai 0] ⟨[], []⟩ (.ret (.tup [exP x, Ai n, Ai e])) ⟨[], []⟩) :
    An 82 [By s] ⟨[], []⟩ (.ret (.tup [exP x, Ai n, Ai e])) ⟨[], []⟩ := by
  have hsc := Ahq s
  rw [h0] at hsc
  refine Af Tryz.func82 rfl rfl (Nat.le_of_ble_eq_true rfl) rfl (Nat.le_refl _) ?_
  repeat' (first | refine rl0 ?_ | refine rs0 (fun h => ?_) (fun h => ?_) | fail)
  refine D3 hsc rfl rfl rfl rfl rfl (by repeat (first | exact Ad | refine Aa (Ab _) ?_)) ?_
  repeat' (first | refine rl0 ?_ | refine rs0 (fun h => ?_) (fun h => ?_) | fail)
  refine D3 hp rfl rfl rfl rfl rfl (by repeat (first | exact Ad | refine Aa (Ab _) ?_)) ?_
  repeat' (first | refine rl0 ?_ | refine rs0 (fun h => ?_) (fun h => ?_) | fail)
  rfl
theorem Acp {s : ByteArray} {x y : Ex} {n : Int} (h0 : (Cn s.data.toList).2.2 = 0) (hp : An 29 [Aad (Cn s.data.toList).1, Ai 0] ⟨[], []⟩ (.ret (.tup [exP x, Ai n, Ai 0])) ⟨[], []⟩) (hs : x.same y = true) :
    An 36 [By s, exP y, Ai n] ⟨[], []⟩ (.ret (A7 true)) ⟨[], []⟩ := by
  have hsm := Wl _ x y (Nat.le_refl _)
  rw [hs] at hsm
  refine Af Tryz.func36 rfl rfl (Nat.le_of_ble_eq_true rfl) rfl (Nat.le_refl _) ?_
  repeat' (first | refine rl0 ?_ | refine rs0 (fun h => ?_) (fun h => ?_) | fail)
  refine D3 (Yz h0 hp) rfl rfl rfl rfl rfl (by repeat (first | exact Ad | refine Aa (Ab _) ?_)) ?_
  repeat' (first | refine rl0 ?_ | refine rs0 (fun h => ?_) (fun h => ?_) | fail)
  . refine D3 hsm rfl rfl rfl rfl rfl (by repeat (first | exact Ad | refine Aa (Ab _) ?_)) ?_
    repeat' (first | refine rl0 ?_ | refine rs0 (fun h => ?_) (fun h => ?_) | fail)
    rfl
  all_goals (exfalso; simp at *)
theorem fails_do {s : ByteArray} {n : Int} (h0 : (Cn s.data.toList).2.2 = 0) (hp : An 29 [Aad (Cn s.data.toList).1, Ai 0] ⟨[], []⟩ (.ret (.tup [exP .nil, Ai n, Ai 350])) ⟨[], []⟩) :
    An 41 [By s, Ai n, Ai 350] ⟨[], []⟩ (.ret (A7 true)) ⟨[], []⟩ := by
  refine Af Tryz.func41 rfl rfl (Nat.le_of_ble_eq_true rfl) rfl (Nat.le_refl _) ?_
  repeat' (first | refine rl0 ?_ | refine rs0 (fun h => ?_) (fun h => ?_) | fail)
  refine D3 (Yz h0 hp) rfl rfl rfl rfl rfl (by repeat (first | exact Ad | refine Aa (Ab _) ?_)) ?_
  repeat' (first | refine rl0 ?_ | refine rs0 (fun h => ?_) (fun h => ?_) | fail)
  all_goals first | rfl | (exfalso; simp at *)
noncomputable def runP (l : List TkZ) : Option (POut × PS) := Agt Tryz.prog orcA rowsA 1000 71 [.ptr 0 0] (paK (l.map tkR) 0)
def normO : Option (POut × PS) -> Option (POut × PS)
  | some (.ret r, S) => some (.ret (normX r), S)
  | o => o
theorem runP_ok {l : List TkZ} {x : Ex} {n : Int} (h : normO (runP l) = some (.ret (exP x), paK (l.map tkR) n)) : An 71 [.ptr 0 0] (paK (l.map tkR) 0) (.ret (exP x)) (paK (l.map tkR) n) := by
  unfold normO at h
  split at h
  . rename_i r S e
    simp only [Option.some.injEq, Prod.mk.injEq, POut.ret.injEq] at h
    obtain ⟨h1, rfl⟩ := h
    exact A4 (Og Ahd e) (h1 ▸ Ae5 _ _)
  . exact Og Ahd h
theorem Vk {s : ByteArray} (l : List TkZ) (x : Ex) {n : Int} (h0 : (Cn s.data.toList).2.2 = 0) (hl : (Cn s.data.toList).1.map Mt = l) (h1 : Fr l = -1) (h2 : ∀ t ∈ l, t.2.1.size <= 9223372036854775807)
    (h : normO (runP l) = some (.ret (exP x), paK (l.map tkR) n)) (hs : x.small) (hc : Bg x = 0) (hsm : x.same x = true) : An 36 [By s, exP x, Ai n] ⟨[], []⟩ (.ret (A7 true)) ⟨[], []⟩ := by
  refine Acp h0 ?_ hsm
  have hi := Yr l h2
  rw [h1] at hi
  rw [Lh, hl]
  exact S9 ⟨by omega, by omega⟩ hi (runP_ok h) hs hc
theorem Aei {s : ByteArray} (l : List TkZ) {n : Int} (h0 : (Cn s.data.toList).2.2 = 0) (hl : (Cn s.data.toList).1.map Mt = l) (h1 : Fr l = -1) (h2 : ∀ t ∈ l, t.2.1.size <= 9223372036854775807)
    (h : runP l = some (.panic Fv, paK (l.map tkR) n)) : An 41 [By s, Ai n, Ai 350] ⟨[], []⟩ (.ret (A7 true)) ⟨[], []⟩ := by
  refine fails_do h0 ?_
  have hi := Yr l h2
  rw [h1] at hi
  rw [Lh, hl]
  exact Pp ⟨by omega, by omega⟩ hi (Og Ahd h)
end Go.Proofs.YtiledamgmppcmaaGreatDoor
namespace Go.Proofs.YtiledamgmppcmaaGreatDoor
open Go.RowKit
def e1 : Ex := .mk 1 1 ⟨#[]⟩ []
def e2 : Ex := .mk 1 2 ⟨#[]⟩ []
def e3 : Ex := .mk 1 3 ⟨#[]⟩ []
def e0 : Ex := .mk 1 0 ⟨#[]⟩ []
def eX : Ex := .mk 2 0 ⟨#[120]⟩ []
def eY : Ex := .mk 2 0 ⟨#[121]⟩ []
def eT : Ex := .mk 3 0 ⟨#[]⟩ []
def eF : Ex := .mk 4 0 ⟨#[]⟩ []
def nd (op : Int) (l : List Ex) : Ex := .mk op 0 ⟨#[]⟩ l
def txt1 : ByteArray := ⟨#[49, 32, 43, 32, 50, 32, 42, 32, 120, 32, 45, 32, 51]⟩
def txt2 : ByteArray := ⟨#[49, 32, 60, 32, 120, 32, 60, 32, 50]⟩
def txt3 : ByteArray := ⟨#[40, 32, 49, 32, 43, 32, 41]⟩
def txt4 : ByteArray := ⟨#[49, 32, 43, 32, 45, 32, 50]⟩
def txt5 : ByteArray := ⟨#[110, 111, 116, 32, 49]⟩
def txt6 : ByteArray := ⟨#[111, 114]⟩
def tl1 : List TkZ := [(3, ⟨#[49]⟩, 0), (4, ⟨#[43]⟩, 2), (3, ⟨#[50]⟩, 4), (4, ⟨#[42]⟩, 6), (1, ⟨#[120]⟩, 8), (4, ⟨#[45]⟩, 10), (3, ⟨#[51]⟩, 12)]
def tl2 : List TkZ := [(3, ⟨#[49]⟩, 0), (4, ⟨#[60]⟩, 2), (1, ⟨#[120]⟩, 4), (4, ⟨#[60]⟩, 6), (3, ⟨#[50]⟩, 8)]
def tl3 : List TkZ := [(4, ⟨#[40]⟩, 0), (3, ⟨#[49]⟩, 2), (4, ⟨#[43]⟩, 4), (4, ⟨#[41]⟩, 6)]
def tl4 : List TkZ := [(3, ⟨#[49]⟩, 0), (4, ⟨#[43]⟩, 2), (4, ⟨#[45]⟩, 4), (3, ⟨#[50]⟩, 6)]
def tl5 : List TkZ := [(2, ⟨#[110, 111, 116]⟩, 0), (3, ⟨#[49]⟩, 4)]
def tl6 : List TkZ := [(2, ⟨#[111, 114]⟩, 0)]
mutual
def Vp : Ex -> Bool
  | .mk _ _ s l => Nat.ble s.size 9223372036854775807 && Ac1 l
def Ac1 : List Ex -> Bool
  | [] => true
  | x :: l => Vp x && Ac1 l
end
mutual
theorem Dy : ∀ {x : Ex}, Vp x = true -> x.small
  | .mk _ _ s l, h => by
    simp only [Vp, Bool.and_eq_true] at h
    exact ⟨Nat.le_of_ble_eq_true h.1, Aa9 h.2⟩
theorem Aa9 : ∀ {l : List Ex}, Ac1 l = true -> Ih l
  | [], _ => trivial
  | x :: l, h => by
    simp only [Ac1, Bool.and_eq_true] at h
    exact ⟨Dy h.1, Aa9 h.2⟩
end
theorem reads1 : An 36 [By txt1, exP (nd 8 [nd 7 [e1, nd 9 [e2, eX]], e3]), Ai 7] ⟨[], []⟩ (.ret (A7 true)) ⟨[], []⟩ :=
  Vk tl1 _ (by decide +kernel) (by decide +kernel) (by decide +kernel) (by decide +kernel) (by kernel_rfl) (Dy (by decide +kernel)) (by decide +kernel) (by decide +kernel)
theorem reads2 : An 36 [By txt2, exP (nd 13 [e1, eX]), Ai 3] ⟨[], []⟩ (.ret (A7 true)) ⟨[], []⟩ :=
  Vk tl2 _ (by decide +kernel) (by decide +kernel) (by decide +kernel) (by decide +kernel) (by kernel_rfl) (Dy (by decide +kernel)) (by decide +kernel) (by decide +kernel)
theorem reads4 : An 36 [By txt4, exP (nd 7 [e1, nd 5 [e2]]), Ai 4] ⟨[], []⟩ (.ret (A7 true)) ⟨[], []⟩ :=
  Vk tl4 _ (by decide +kernel) (by decide +kernel) (by decide +kernel) (by decide +kernel) (by kernel_rfl) (Dy (by decide +kernel)) (by decide +kernel) (by decide +kernel)
theorem reads5 : An 36 [By txt5, exP (nd 6 [e1]), Ai 2] ⟨[], []⟩ (.ret (A7 true)) ⟨[], []⟩ :=
  Vk tl5 _ (by decide +kernel) (by decide +kernel) (by decide +kernel) (by decide +kernel) (by kernel_rfl) (Dy (by decide +kernel)) (by decide +kernel) (by decide +kernel)
theorem fails3 : An 41 [By txt3, Ai 3, Ai 350] ⟨[], []⟩ (.ret (A7 true)) ⟨[], []⟩ :=
  Aei tl3 (by decide +kernel) (by decide +kernel) (by decide +kernel) (by decide +kernel) (by kernel_rfl)
theorem fails6 : An 41 [By txt6, Ai 0, Ai 350] ⟨[], []⟩ (.ret (A7 true)) ⟨[], []⟩ :=
  Aei tl6 (by decide +kernel) (by decide +kernel) (by decide +kernel) (by decide +kernel) (by kernel_rfl)
end Go.Proofs.YtiledamgmppcmaaGreatDoor
namespace Go.Proofs.YtiledamgmppcmaaGreatDoor
open Go.RowKit
abbrev Nf := Nat × List PV × POut
def Nf.holds (e : Nf) : Prop := An e.1 e.2.1 ⟨[], []⟩ e.2.2 ⟨[], []⟩
def normA : PV -> PV
  | .d (.v (.slice none 0 0)) => .d (.sl 1 [])
  | p => normX p
theorem Ane (S : PS) (p : PV) : Coe S p (normA p) := by
  unfold normA
  split
  . exact Bo
  . exact Ae5 S _
theorem Aay (S : PS) : ∀ l : List PV, F6 S l (l.map normA)
  | [] => Ad
  | p :: r => Aa (Ane S p) (Aay S r)
def eqPA : PV -> PV -> Bool
  | .agg l, .agg l' => eqPs l l'
  | p, q => eqP p q
theorem eqPA_ok {p q : PV} (h : eqPA p q = true) : p = q := by
  unfold eqPA at h
  split at h
  . rw [Ags h]
  . exact eqP_ok h
def Agr : List PV -> List PV -> Bool
  | [], [] => true
  | c :: r, c' :: r' => eqPA c c' && Agr r r'
  | _, _ => false
theorem Ail : ∀ {l l' : List PV}, Agr l l' = true -> l = l'
  | [], [], _ => rfl
  | c :: r, c' :: r', h => by
    simp only [Agr, Bool.and_eq_true] at h
    rw [eqPA_ok h.1, Ail h.2]
  | [], _ :: _, h => by simp [Agr] at h
  | _ :: _, [], h => by simp [Agr] at h
def findT (f : Nat) (args : List PV) : List Nf -> Option POut
  | [] => none
  | e :: r => bif Nat.beq e.1 f && Agr e.2.1 args then some e.2.2 else findT f args r
def orcT (T : List Nf) (f : Nat) (args : List PV) (S : PS) : Option (POut × PS) := match S with
  | ⟨[], []⟩ => match findT f (args.map normA) T with
    | some o => some (o, ⟨[], []⟩)
    | none => none
  | _ => none
theorem Lu {f : Nat} {args args' : List PV} {S S' : PS} {out : POut} (h : An f args' S out S') (hc : F6 S args args') : An f args S out S' :=
  ⟨h.1, fun K w vs hI hA => h.2 K w vs hI (F6.rep hI hc hA)⟩
theorem Aiq {f : Nat} {args : List PV} {o : POut} : ∀ {T : List Nf}, (∀ e ∈ T, Nf.holds e) -> findT f args T = some o -> An f args ⟨[], []⟩ o ⟨[], []⟩
  | [], _, h => by cases h
  | e :: r, hT, h => by
    unfold findT at h
    cases hb : (Nat.beq e.1 f && Agr e.2.1 args) with
    | true =>
      rw [hb] at h
      simp only [Bool.and_eq_true] at hb
      simp only [cond_true, Option.some.injEq] at h
      have := hT e List.mem_cons_self
      unfold Nf.holds at this
      rw [Nat.eq_of_beq_eq_true hb.1, Ail hb.2, h] at this
      exact this
    | false =>
      rw [hb] at h
      exact Aiq (fun e he => hT e (List.mem_cons_of_mem _ he)) h
theorem Anw {T : List Nf} (hT : ∀ e ∈ T, Nf.holds e) : Z2 (orcT T) := by
  intro f args S out S' h
  unfold orcT at h
  split at h
  . split at h
    . rename_i o ho
      cases h
      exact Lu (Aiq hT ho) (Aay _ _)
    . cases h
  . cases h
theorem Yl : ∀ e ∈ ([] : List Nf), Nf.holds e := fun _ h => by cases h
theorem A0 {e : Nf} {T : List Nf} (h : e.holds) (h' : ∀ e ∈ T, Nf.holds e) : ∀ x ∈ e :: T, Nf.holds x := fun x hx => by
  rcases List.mem_cons.1 hx with rfl | hx
  . exact h
  . exact h' x hx
end Go.Proofs.YtiledamgmppcmaaGreatDoor
namespace Go.Proofs.YtiledamgmppcmaaGreatDoor
open Go.RowKit
def Ret (S : PS) (n m : Nat) (p p' : PV) : Prop := ∀ (K : Kx) (w : World) (u : Value), Inv K S w -> Rep K w p u -> Rep (K.cut n m) w p' u
def RetL (S : PS) (n m : Nat) (l l' : List PV) : Prop := ∀ (K : Kx) (w : World) (us : List Value), Inv K S w -> Bm K w l us -> Bm (K.cut n m) w l' us
theorem Y4 {S : PS} {n m : Nat} {p : PV} (h : p.lt n m = true) : Ret S n m p p := fun _ _ u _ hr => Rep.cut p u h hr
theorem ret_d {S : PS} {n m : Nat} {c : DV} : Ret S n m (.d c) (.d c) := Y4 rfl
theorem Ajj {S : PS} {n m : Nat} : RetL S n m [] [] := fun _ _ _ _ h => h
theorem Vm {S : PS} {n m : Nat} {p p' : PV} {l l' : List PV} (h : Ret S n m p p') (h' : RetL S n m l l') : RetL S n m (p :: l) (p' :: l') := fun K w us hI hr => by
  simp only [Bm] at hr |-
  obtain ⟨u, us', rfl, h1, h2⟩ := hr
  exact ⟨u, us', rfl, h K w u hI h1, h' K w us' hI h2⟩
theorem ret_agg {S : PS} {n m : Nat} {l l' : List PV} (h : RetL S n m l l') : Ret S n m (.agg l) (.agg l') := fun K w u hI hr => by
  simp only [Rep] at hr |-
  obtain ⟨cs, h1, h2⟩ := hr
  exact ⟨cs, h1, h K w cs hI h2⟩
theorem ret_tup {S : PS} {n m : Nat} {l l' : List PV} (h : RetL S n m l l') : Ret S n m (.tup l) (.tup l') := fun K w u hI hr => by
  simp only [Rep] at hr |-
  obtain ⟨cs, h1, h2⟩ := hr
  exact ⟨cs, h1, h K w cs hI h2⟩
theorem Ad6 {K : Kx} {w : World} {b : Nat} {C : Array Value} {ty : TypeId} (hh : w.heap[b]? = some (.cells C ty (0, 0))) : ∀ {ds : List DV} {o : Nat}, Bm K w (ds.map .d) (C.toList.drop o) -> Bn (K.good w) w ds b o
  | [], _, _ => by simp [Bn]
  | c :: r, o, h => by
    simp only [List.map_cons, Bm] at h
    obtain ⟨u, us, e, h1, h2⟩ := h
    simp only [Bn]
    have hu : C.toList[o]? = some u := by
      have := congrArg (fun l => l[0]?) e
      simpa using this
    have hus : C.toList.drop (o + 1) = us := by
      have := congrArg (List.drop 1) e
      simpa [Nat.add_comm] using this
    refine ⟨⟨u, ?_, by simpa only [Rep] using h1⟩, Ad6 hh (by rw [hus]; exact h2)⟩
    rw [cell_of_row _ _ o _ _ _ hh, <- Array.getElem?_toList]; exact hu
theorem Air : ∀ ds : List DV, (ds.map fun d => [d]).flatten = ds
  | [] => rfl
  | d :: r => by simp [Air r]
theorem Aoa {S : PS} {n m k id cap : Nat} {ds : List DV} (hb : S.boxes[id]? = some (ds.map .d)) (hn : n <= id) (hc : ds.length <= cap) (h63 : cap <= 9223372036854775807) : Ret S n m (.bsl k id 0 ds.length cap) (.d (.sl 1 (ds.map fun d => [d]))) := by
  intro K w u hI hr
  simp only [Rep] at hr
  obtain ⟨b, hβ, rfl⟩ := hr
  obtain ⟨c, hc', hlt, C, ty, hh, hrep, _⟩ := hI.boxLt hβ
  rw [hb] at hc'; cases hc'
  have hbm : b ∈ K.β := List.mem_of_getElem? hβ
  obtain ⟨h1, h2⟩ := hI.βM b hbm
  simp only [Rep, Ef, List.length_map]
  refine ⟨_, cap, rfl, hc, h63, fun _ => ⟨b, 0, rfl, ⟨hlt, fun hm => ?_, h1, fun lo hT => absurd hT (h2 lo), fun t c lo ht hcb => absurd hbm (hI.tokF t c b lo (Ii ht).1 hcb).1⟩, ?_⟩⟩
  . have hm' : b ∈ K.β.take n := hm
    obtain ⟨i, hi⟩ := List.getElem?_of_mem hm'
    obtain ⟨h3, h4⟩ := Ii hi
    have := (List.getElem?_inj (List.getElem?_eq_some_iff.1 h3).1 hI.nodup).1 (h3.trans hβ.symm)
    omega
  . refine Fx.2 ⟨fun e he => ?_, ?_⟩
    . obtain ⟨d, _, rfl⟩ := List.mem_map.1 he; rfl
    . rw [Air]
      have h5 := Ad6 hh (o := 0) (ds := ds) (by simpa using hrep)
      exact Bn.mono (fun _ _ hg => ⟨S3 hg, fun _ _ => rfl⟩) _ _ _ (fun _ _ => rfl) h5
theorem does_ret {f : Nat} {args : List PV} {S S' : PS} {r r' : PV} (n m : Nat) (h : An f args S (.ret r) S') (hn : S.boxes.length <= n) (hm : S.toks.length <= m) (hall : (S'.boxes.take n).all (fun c => PV.ltL n m c) = true) (hr : Ret S' n m r r') : An f args S (.ret r') (S'.cut n m) :=
  ⟨h.1, fun K w vs hI hA => (h.2 K w vs hI hA).mono fun _ _ ⟨K', h1, h2, v, he, hv⟩ => ⟨K'.cut n m, Gb hI h1 hn hm, h2.cut hall, v, he, hr _ _ _ h2 hv⟩⟩
structure PB (P : Program) (N : Nat) (c : Code) (Q : Exit -> (Nat -> PV) -> PS -> Prop) (F : Nat -> PV) (S : PS) (n m : Nat) : Prop where
  run : ∀ (ro : Option Nat) (mm : Nat) (K : Kx) (w : World) (a : Act) (K0 : Kx) (S0 : PS) (w0 : World), Inv K0 S0 w0 -> S0.boxes.length <= n -> S0.toks.length <= m -> Step K0 K w0 w -> Inv K S w -> FrameRep K w N F a -> c.wpIn (fen ro) mm P (QC K0 w0 a.defers N Q) a w
section
variable {P : Program} {N : Nat} {c x y : Code} {Q : Exit -> (Nat -> PV) -> PS -> Prop} {F : Nat -> PV} {S : PS} {n m : Nat}
theorem pb_pw (h : PW P N c Q F S) : PB P N c Q F S n m := ⟨fun ro mm K w a _ _ _ hI0 _ _ hs hI hF => wpIn_mono (h.run ro mm K w a hI hF) fun _ _ _ hq => hq.step hI0 hs⟩
theorem Rt (h : PW P N x (Xk (fun F' S' => PB P N y Q F' S' n m) Q) F S) : PB P N (.seq x y) Q F S n m := by
  refine ⟨fun ro mm K w a K0 S0 w0 hI0 hn hm hs hI hF => ?_⟩
  refine wpIn_seq (wpIn_mono (h.run ro mm K w a hI hF) fun e a' w' hq => ?_)
  obtain ⟨K', F', S', h1, h2, h3, h4, h5⟩ := hq
  cases e with
  | normal =>
    have h6 := PB.run h5 ro mm K' w' a' K0 S0 w0 hI0 hn hm (hs.trans hI0 h1) h2 h3
    rw [h4] at h6
    exact h6
  | ret => exact ⟨K', F', S', hs.trans hI0 h1, h2, h3, h4, h5⟩
  | exit id => exact ⟨K', F', S', hs.trans hI0 h1, h2, h3, h4, h5⟩
  | goto l => exact ⟨K', F', S', hs.trans hI0 h1, h2, h3, h4, h5⟩
  | panic c => exact ⟨K', F', S', hs.trans hI0 h1, h2, h3, h4, h5⟩
  | outgrown => exact ⟨K', F', S', hs.trans hI0 h1, h2, h3, h4, h5⟩
def RetF (S : PS) (n m : Nat) (L : List (Nat × PV)) (F : Nat -> PV) : Prop := ∀ q ∈ L, Ret S n m (F q.1) q.2
theorem X1 : RetF S n m [] F := fun _ h => by cases h
theorem Mi {t : Nat} {p : PV} {L : List (Nat × PV)} (h : Ret S n m (F t) p) (h' : RetF S n m L F) : RetF S n m ((t, p) :: L) F := fun q hq => by
  rcases List.mem_cons.1 hq with rfl | hq
  . exact h
  . exact h' q hq
theorem Ai2 : ∀ {L : List (Nat × PV)} {t : Nat} {p : PV}, Am5 t L = p -> p = .any \/ (t, p) ∈ L
  | [], t, p, h => .inl h.symm
  | (i, q) :: r, t, p, h => by
    simp only [Am5] at h
    cases hb : Nat.beq t i with
    | true => rw [hb] at h; cases h; rw [Nat.eq_of_beq_eq_true hb]; exact .inr List.mem_cons_self
    | false =>
      rw [hb] at h
      rcases Ai2 h with h1 | h1
      . exact .inl h1
      . exact .inr (List.mem_cons_of_mem _ h1)
theorem Afk (n' m' : Nat) (L : List (Nat × PV)) (hn : n <= n') (hm : m <= m') (hall : (S.boxes.take n').all (fun c => PV.ltL n' m' c) = true) (hF : RetF S n' m' L F) (k : PB P N c Q (fr L) (S.cut n' m') n m) : PB P N c Q F S n m := by
  refine ⟨fun ro mm K w a K0 S0 w0 hI0 hn0 hm0 hs hI hFr => ?_⟩
  refine k.run ro mm (K.cut n' m') w a K0 S0 w0 hI0 hn0 hm0 (Gb hI0 hs (by omega) (by omega)) (hI.cut hall) ⟨hFr.size, fun t => ?_⟩
  rcases Ai2 (L := L) (t := t) rfl with h | h
  . rw [show fr L t = _ from h]; simp [Rep]
  . exact hF _ h K w _ hI (hFr.rep t)
end
def retQ (fn : Func) (r : PV) (e : Exit) (F : Nat -> PV) (S : PS) : Prop := (e = .normal \/ e = .ret) /\ ∃ ps, Uf Tryz.prog F S fn.results.toList ps /\ Ret S 0 0 (Afq ps) r
theorem finR {fn : Func} {F : Nat -> PV} {S : PS} {e : Exit} {ps : List PV} {r r' : PV} (he : e = .normal \/ e = .ret) (hps : Afp F S fn.results.toList = some ps) (hv : Afq ps = r') (hr : Ret S 0 0 r' r) : retQ fn r e F S :=
  ⟨he, ps, B6 hps, hv ▸ hr⟩
theorem Aan {f : Nat} {fn : Func} {c : Code} {args : List PV} {r : PV} (hf : Tryz.prog.funcs[f]? = some fn) (hname : (fn.name == "runtime.NumGoroutine") = false) (hb : fn.body = some c) (hn : args.length <= fn.ntmps)
    (h : fitL args -> PB Tryz.prog fn.ntmps c (retQ fn r) (Lr args) ⟨[], []⟩ 0 0) : An f args ⟨[], []⟩ (.ret r) ⟨[], []⟩ := by
  refine ⟨enters_of hf hname hb, fun K w vs hI hA => ?_⟩
  have hl := hA.length
  have hz : w.heap.size = w.heap.size := rfl
  refine calls_of_wp hf hb (wp_mono ((wpIn_wide (n := 0)).1 ((h (X0 _ _ hA)).run none 0 K w { tmps := vs.toArray ++ Array.replicate (fn.ntmps - vs.toArray.size) undef, defers := [] } K ⟨[], []⟩ w hI (Nat.le_refl _) (Nat.le_refl _) (Step.refl K w) hI ⟨by simp; omega, fun t => ?_⟩)) ?_)
  . have := G3 args vs (fn.ntmps - vs.toArray.size) t hA
    rw [Array.getD_eq_getD_getElem?]
    rw [List.getD_eq_getElem?_getD] at this
    rw [<- Array.getElem?_toList]
    simpa using this
  . intro e a' w' hq
    obtain ⟨K', F', S1, h1, h2, h3, h4, he, ps, h8, hr⟩ := hq
    obtain ⟨v, h10, h11⟩ := Lx h2 h3 h8
    have hc := h2.cut (n := 0) (m := 0) (by simp)
    have e0 : S1.cut 0 0 = ⟨[], []⟩ := by simp [PS.cut]
    rw [e0] at hc
    have hpost : ∃ K2, Step K K2 w w' /\ Inv K2 ⟨[], []⟩ w' /\ W5 K2 w' (.ret r) (.returned v) := ⟨_, Gb hI h1 (Nat.le_refl _) (Nat.le_refl _), hc, v, rfl, hr _ _ _ h2 h11⟩
    rcases he with rfl | rfl
    . exact ⟨h4, v, h10, hpost⟩
    . exact ⟨h4, v, h10, hpost⟩
theorem Ano {P : Program} {o : Oper} {F : Nat -> PV} {S : PS} {t : TypeId} {x y : Operand} {I : TyI} {n : Nat} {z : Value} {kx ky : IntKind} (ho : o.op = .makeSlice t x y) (hI : TyI.of P t = some I) (hk : I.kind = 2) (hek : I.ek = 1) (hez : I.ez = [z]) (hz1 : z.oneCell' = true) (hx : evP F x = .d (.v (.int kx n))) (hy : evP F y = .d (.v (.int ky n)))
    (hn : I.eb * n <= 281474976710656) (h63 : n <= 9223372036854775807) : OpS P o F S (.bsl 1 S.boxes.length 0 n n) (S.addBox (List.replicate n (.d (.v z)))) :=
  OpS.val fun K w ρ hInv h => by
    have h1 := h x (by simp [ho, Op.operands])
    have h2 := h y (by simp [ho, Op.operands])
    rw [hx] at h1
    rw [hy] at h2
    have h1 := Ej h1
    have h2 := Ej h2
    obtain ⟨i, d, zz, hi, hu, hz, _, hzz, hd⟩ := TyI.inv hI
    rw [hk] at hd; simp at hd
    obtain ⟨rfl, ie, hie, ze, hze, hzs, hek2, heb, hez2⟩ := hd
    have hsz : ie.size = 1 := by rw [<- hek]; first | exact hek2 | exact hek2.symm
    have hcl : ze.cells.toList = [z] := by rw [<- hez]; first | exact hez2.1 | exact hez2.1.symm
    have hrun := run_make (P := P) w t I.elem ie ze hu hie hze kx ky n n (by omega) (Int.le_refl _) (by have hb : ie.bytes = I.eb := (by first | exact heb | exact heb.symm); rw [hb]; omega) (by omega)
    simp only [Int.toNat_natCast, hsz, Nat.mul_one] at hrun
    have hm : (madeCells ze.cells n).toList = List.replicate n z := U8 hcl n
    obtain ⟨g1, g2⟩ := hInv.newBox (c := List.replicate n (.d (.v z))) (C := madeCells ze.cells n) (ty := I.elem) (by rw [hm]; exact Tb hz1 n) (by rw [hm]; intro v hv; rw [List.eq_of_mem_replicate hv]; exact hz1)
    refine ⟨_, _, _, by simp only [execOp, ho, h1, h2, Sem.run_bind, hrun]; rfl, g2, g1, ?_⟩
    simp only [Rep]
    exact ⟨w.heap.size, by show (K.β ++ [_])[_]? = _; rw [<- hInv.lenβ]; simp, rfl⟩
section
variable {N : Nat} {ops : Array Oper} {rest : List Oper} {o : Oper} {F : Nat -> PV} {S : PS} {q : WRes -> Prop}
theorem wmakeB {t : TypeId} {x y : Operand} {n : Nat} {kx ky : IntKind} (z : Value) (hg : Am ops F o = some true) (ho : o.op = .makeSlice t x y) (hk : (Bq t && Nat.beq (tyi t).kind 2 && Nat.beq (tyi t).ek 1) = true) (hez : (tyi t).ez = [z]) (hz1 : z.oneCell' = true) (hx : evP F x = .d (.v (.int kx n))) (hy : evP F y = .d (.v (.int ky n)))
    (hn : (tyi t).eb * n <= 281474976710656) (h63 : n <= 9223372036854775807) (kk : WK Tryz.prog N ops rest (Ch N o.dst (.bsl 1 S.boxes.length 0 n n) F) (S.addBox (List.replicate n (.d (.v z)))) q) : WK Tryz.prog N ops (o :: rest) F S q := by
  simp only [Bool.and_eq_true] at hk
  exact Kb hg (Ano ho (Gl t hk.1.1) (Nat.eq_of_beq_eq_true hk.1.2) (Nat.eq_of_beq_eq_true hk.2) hez hz1 hx hy hn h63) kk
end
section
variable {N : Nat} {ops : Array Oper} {rest : List Oper} {o : Oper} {F : Nat -> PV} {S S' : PS} {q : WRes -> Prop} {ch : Nat -> Bool} {U Ut : List Nat} {k : Nat} {bm : Bool} {D : List Nat}
theorem An4 {c : List PV} {off : Nat} {p : PV} (h : off < c.length) : putAt c off [p] = c.set off p := by
  rw [List.set_eq_take_append_cons_drop, if_pos h]
  simp [putAt]
theorem Yy {t : TypeId} {x y : Operand} {id off : Nat} {c : List PV} {dv : DV} (ho : o.op = .store t x y) (hk : (Bq t && Nat.beq (tyi t).size 1) = true) (hx : evP F x = .ptr id off) (hy : evP F y = .d dv) (hc : S.boxes[id]? = some c) (hlt : off < c.length) (hS : S.setBox id (c.set off (.d dv)) = S') : OpS Tryz.prog o F S .un S' := by
  simp only [Bool.and_eq_true] at hk
  have hz := Nat.eq_of_beq_eq_true hk.2
  refine Abb (C := True) Gl ho ?_
  unfold Zp
  rw [hk.1, hx]
  simp only [cond_true]
  rw [hc, hy]
  simp only [Afh]
  rw [hz]
  have h1 : Nat.ble (off + 1) c.length = true := Nat.ble_eq_true_of_le hlt
  rw [h1, <- hS, <- An4 hlt]
  rfl
theorem wsto {t : TypeId} {x y : Operand} {id : Nat} (off : Nat) {c : List PV} {dv : DV} (hg : Am ops F o = some true) (ho : o.op = .store t x y) (hk : (Bq t && Nat.beq (tyi t).size 1) = true) (hx : evP F x = .ptr id off) (hy : evP F y = .d dv) (hc : S.boxes[id]? = some c) (hlt : off < c.length) (hS : S.setBox id (c.set off (.d dv)) = S')
    (kk : WK Tryz.prog N ops rest (Ch N o.dst .un F) S' q) : WK Tryz.prog N ops (o :: rest) F S q := Kb hg (Yy ho hk hx hy hc hlt hS) kk
theorem waco {t : TypeId} {x y : Operand} {id : Nat} (off : Nat) {c : List PV} {dv : DV} (hg : Am ops F o = some true) (hch : ch k = true) (ho : o.op = .store t x y) (hk : (Bq t && Nat.beq (tyi t).size 1) = true) (hx : evP F x = .ptr id off) (hy : evP F y = .d dv) (hc : S.boxes[id]? = some c) (hlt : off < c.length) (hS : S.setBox id (c.set off (.d dv)) = S') (ha : Agree U Ut S S')
    (kk : WA Tryz.prog N ops ch U Ut (k + 1) rest (Ch N o.dst .un F) S' false D q) : WA Tryz.prog N ops ch U Ut k (o :: rest) F S false D q := Qw hg hch (Yy ho hk hx hy hc hlt hS) ha kk
theorem wsld {t : TypeId} {x : Operand} {id : Nat} (off : Nat) {c : List PV} {dv : DV} (hg : Am ops F o = some true) (ho : o.op = .load t x) (hk : (Bq t && !(tyi t).isRow) = true) (hx : evP F x = .ptr id off) (hc : S.boxes[id]? = some c) (hp : c[off]? = some (.d dv))
    (kk : WK Tryz.prog N ops rest (Ch N o.dst (.d dv) F) S q) : WK Tryz.prog N ops (o :: rest) F S q := by
  refine wst (C := True) (r := .d dv) (S' := S) hg ?_ trivial kk
  rw [ho]
  simp only [Le, P1]
  rw [hk, hx]
  simp only [cond_true]
  rw [hc]
  dsimp only
  rw [hp]; rfl
end
theorem V8 {P : Program} {fn : Func} {out : POut} {S0 S' : PS} {F : Nat -> PV} {K0 : Kx} {w0 : World} {a : Act} (hI0 : Inv K0 S0 w0) (hS : S0.boxes.length <= S'.boxes.length) (hT : S0.toks.length <= S'.toks.length)
    (hent : ∀ (g : Nat) (f : Func), P.funcs[g]? = some f -> (f.name == "runtime.NumGoroutine") = false -> f.body.isSome = true -> ∀ args w, (callFunc g args).run P w = .ok (.enter g args) w) :
    ∀ (D : List DefP) (u : Option Value) (S1 : PS) (K1 : Kx) (w1 : World) (ds : List Deferred), Step K0 K1 w0 w1 -> Inv K1 S1 w1 -> FrameRep K1 w1 fn.ntmps F a -> Kc w0.heap.size K1 w1 D ds -> Adt P fn out S' F D u S1 ->
      LeavesInM Fence.wide 6 P fn a.tmps (fun e w' => ∃ K', Step K0 K' w0 w' /\ Inv K' S' w' /\ W5 K' w' out e) ds (Z8 u) w1
  | [], none, S1, K1, w1, ds, hs, hI, hF, hD, h => by
    obtain rfl : ds = [] := hD
    obtain ⟨r, rfl, h5, h6, _, ps, h8, rfl, h9⟩ := h
    have hcut := hI.cut (n := S'.boxes.length) (m := S'.toks.length) h5
    rw [h6] at hcut
    obtain ⟨v, h10, h11⟩ := Lx hI hF h8
    exact ⟨v, h10, _, Gb hI0 hs (by omega) hT, hcut, v, rfl, Rep.cut _ _ h9 h11⟩
  | [], some c, S1, K1, w1, ds, hs, hI, hF, hD, h => by
    obtain rfl : ds = [] := hD
    obtain ⟨rfl, h5, h6, _⟩ := h
    have hcut := hI.cut (n := S'.boxes.length) (m := S'.toks.length) h5
    rw [h6] at hcut
    exact ⟨_, Gb hI0 hs (by omega) hT, hcut, rfl⟩
  | .mark :: D, u, S1, K1, w1, ds, hs, hI, hF, hD, h => by
    obtain ⟨k, r, rfl, hm, hne, hD⟩ := hD
    refine ⟨by cases u <;> simp [Z8], .inl ⟨k, _, rfl, run_takeDeferred hm.2.1, ?_⟩⟩
    exact V8 hI0 hS hT hent D u S1 K1 _ r (hs.putO hm.2.1 rfl rfl hm.1) (hI.putO hm.2.1 rfl rfl) (hF.putO hm.2.1 rfl rfl) (hD.putO hm.2.1 rfl rfl hne) h
  | .call g caps :: D, u, S1, K1, w1, ds, hs, hI, hF, hD, h => by
    obtain ⟨cs, r, rfl, hc, hD⟩ := hD
    obtain ⟨⟨f, hf1, hf2, hf3⟩, S2, hE, h⟩ := h
    refine ⟨by cases u <;> simp [Z8], .inr ⟨by simp [Fence.wide], .func g, cs.toArray, g, cs.toArray, rfl, ?_, fun _ _ => trivial, ?_⟩⟩
    . simp only [invoke, Array.empty_append]
      exact hent g f hf1 hf2 hf3 _ _
    . refine Up (hE (6 - 1) K1 w1 cs hI hc) ?_
      rintro e u' w' ⟨⟨v, rfl⟩, hset, K2, hs2, hI2⟩
      show LeavesInM _ _ _ _ _ _ r (settle u') w'
      rw [hset]
      exact V8 hI0 hS hT hent D none S2 K2 w' r (hs.trans hI0 hs2) hI2 ⟨hF.size, fun t => Rep.step hs2 _ _ (hF.rep t)⟩ (hD.step hs2) h
theorem Amh {P : Program} {f : Nat} {fn : Func} {c : Code} {args : List PV} {S S' : PS} {out : POut} (hent : ∀ (g : Nat) (f : Func), P.funcs[g]? = some f -> (f.name == "runtime.NumGoroutine") = false -> f.body.isSome = true -> ∀ args w, (callFunc g args).run P w = .ok (.enter g args) w)
    (hf : P.funcs[f]? = some fn) (hb : fn.body = some c) (hn : args.length <= fn.ntmps) (hS : S.boxes.length <= S'.boxes.length) (hT : S.toks.length <= S'.toks.length) (h : PD P fn.ntmps c (bodyD P fn out S') (Lr args) S []) : EvC P f args S out S' := by
  intro K w vs hI hA
  have hl := hA.length
  refine (callsIn_wide (n := 6)).1 (callsIn_of_wp_marks hf hb trivial (wpIn_wide.2 (wp_mono (h.run w.heap.size K w { tmps := vs.toArray ++ Array.replicate (fn.ntmps - vs.toArray.size) undef, defers := [] } (Nat.le_refl _) hI ⟨by simp; omega, fun t => ?_⟩ rfl) ?_)) rfl)
  . have := G3 args vs (fn.ntmps - vs.toArray.size) t hA
    rw [Array.getD_eq_getD_getElem?]
    rw [List.getD_eq_getElem?_getD] at this
    rw [<- Array.getElem?_toList]
    simpa using this
  . intro e a' w' hq
    obtain ⟨K', F', S1, D', h1, h2, h3, h4, u, hu, hL⟩ := hq
    have key := V8 (out := out) hI hS hT hent D' u S1 K' w' a'.defers h1 h2 h3 h4 hL
    rcases hu with ⟨rfl, rfl | rfl⟩ | ⟨c, rfl, rfl⟩
    . exact key
    . exact key
    . exact key
end Go.Proofs.YtiledamgmppcmaaGreatDoor
namespace Go.Proofs.YtiledamgmppcmaaGreatDoor
open Go.RowKit
attribute [local go_sem] Oper.semAt_some
@[reducible] def Z7 (x : Int) : List DV := [.v (.int .u32 x)]
@[reducible] def O2 (l : List Int) : PV := .d (.sl 1 (l.map Z7))
def Xl {σ : Type} (step : σ -> Nat -> Int -> σ) (l : List Int) : Nat -> σ -> σ
  | 0, s => s
  | i + 1, s => Xl step l i (step s i (l.getD i 0))
def LimAt (W : World) (XB : Nat) (l : List Int) : Prop := ∃ p cap, W.cell? ⟨XB, 0, none⟩ = some (.slice p l.length cap) /\ l.length <= 9223372036854775807 /\ ∀ (j : Nat), j < l.length -> ∃ b o, p = some ⟨b, o, none⟩ /\ W.cell? ⟨b, o + j, none⟩ = some (.int .u32 (l.getD j 0))
theorem limG {G : Nat -> Nat -> Prop} {w : World} {sl : Value} {l : List Int} {XB : Nat} (h : Ef G w (.sl 1 (l.map Z7)) sl) (hc : w.cell? ⟨XB, 0, none⟩ = some sl) : LimAt w XB l := by
  simp only [Ef] at h
  obtain ⟨p, cap, rfl, h1, h2, h3⟩ := h
  simp only [List.length_map] at h1 h3 hc
  refine ⟨p, cap, hc, by omega, fun j hlt => ?_⟩
  obtain ⟨b, o, rfl, h4, h5⟩ := h3 (by intro e; simp at e; subst e; simp at hlt)
  have h6 := R0 (j := j) (e := Z7 l[j]) h5 (by simp [hlt])
  simp only [Bn] at h6
  obtain ⟨⟨u0, c0, r0⟩, _⟩ := h6
  simp only [Ef] at r0
  rw [r0.1, Nat.mul_one] at c0
  refine ⟨b, o, rfl, ?_⟩
  rw [c0, List.getD_eq_getElem?_getD, List.getElem?_eq_getElem hlt]; rfl
set_option maxRecDepth 100000 in
set_option maxHeartbeats 4000000 in
theorem backG {σ : Type} (step : σ -> Nat -> Int -> σ) (left : σ -> Nat) (hleft : ∀ s i x, left (step s i x) = i) (J : σ -> World -> Prop) (L XB : Nat) (l : List Int) (hC : ∀ s W, J s W -> LimAt W XB l)
    (hY : ∀ s i W, i < l.length -> left s = i + 1 -> J s W -> YieldAt Fence.wide 4 Tryz.prog L #[.int .i64 (i : Nat), .int .u32 (l.getD i 0)] W (fun e W' => e = .returned (.bool true) /\ J (step s i (l.getD i 0)) W'))
    (s : σ) (hl0 : left s = l.length) (W0 : World) (hJs : J s W0) :
    Calls Tryz.prog 243 #[.func (.yield L) #[] #[], .pointer (some ⟨XB, 0, none⟩)] W0 fun e W' => e = .returned (.tuple #[]) /\ J (Xl step l l.length s) W' := by
  refine (callsIn_wide (n := 6)).1 ?_
  obtain ⟨p, cap, c0, hmax, -⟩ := hC s W0 hJs
  have HC := Lib.hid hC
  have HY := Lib.hid hY
  have HJS := Lib.hid hJs
  have hz := Kg c0
  have hw1 : IntKind.i64.wrap ((l.length : Int) - 1) = (l.length : Int) - 1 := by rw [IntKind.wrap_i64]; omega
  clear hC hY hJs
  refine callsIn_of_wp Tryz.func243 rfl trivial ?_ rfl
  simp only [Tryz.ntmps243, List.size_toArray, List.length_cons, List.length_nil, Nat.reduceAdd, Nat.reduceSub, Array.replicate_succ, Array.replicate_zero, List.push_toArray, List.append_toArray, List.nil_append, List.cons_append]
  gi_wp2
  gi_loopw [3] (fun i wr => ∃ (j : Nat) (t : σ), j <= l.length /\ i = .int .i64 ((j : Int) - 1) /\ J t wr /\ left t = j /\ Xl step l j t = Xl step l l.length s) (fun i _ => (intOf i + 1).toNat)
  case atStart => exact ⟨l.length, s, Nat.le_refl _, rfl, HJS.out, hl0, rfl⟩
  case round =>
    obtain ⟨j, t, hj, rfl, hJt, hlf, hwl⟩ := hrel
    have HJT := Lib.hid hJt
    have HWL := Lib.hid hwl
    clear hJt hwl
    by_cases hlt : 0 < j
    . obtain ⟨j, rfl⟩ : ∃ i, j = i + 1 := ⟨j - 1, by omega⟩
      obtain ⟨p, cap, c0r, -, hel⟩ := HC.out t wr HJT.out
      obtain ⟨b, o, rfl, c1⟩ := hel j (by omega)
      have hy0 := HY.out t j wr (by omega) hlf HJT.out
      have HWS : Hid (Xl step l j (step t j (l.getD j 0)) = Xl step l l.length s) := Lib.hid HWL.out
      obtain ⟨x, hx⟩ : ∃ x, l.getD j 0 = x := ⟨_, rfl⟩
      rw [hx] at c1 hy0 HWS
      clear HWL hx hel
      obtain ⟨fn, tmps, assign, body, hy, hRd⟩ := Oy (m' := 5) hy0
      have HRD := Lib.hid hRd
      have hz := Kg c1
      have hz2 := Kg c0r
      have hj1 : ((j + 1 : Nat) : Int) - 1 = (j : Int) := by omega
      have hw2 : IntKind.i64.wrap ((j : Int) - 1) = (j : Int) - 1 := by rw [IntKind.wrap_i64]; omega
      clear hy0 hRd
      rw [hj1]
      gi_wp2_with fail
      refine HRD.out.mono ?_
      rintro e w5 ⟨rfl, hj5⟩
      have HJ5 := Lib.hid hj5
      clear hj5 hy HRD
      gi_wp2
      go_round
      case rel => exact ⟨j, _, by omega, by go_num, HJ5.out, hleft _ _ _, HWS.out⟩
      case measure => simp [intOf]
    . obtain rfl : j = 0 := by omega
      gi_wp2
      go_end0
      exact ⟨rfl, by have h := HWL.out; rw [Xl] at h; rw [<- h]; exact HJT.out⟩
set_option maxHeartbeats 1000000 in
theorem An2 {σ : Type} (step : σ -> Nat -> Int -> σ) (left : σ -> Nat) (Sx : σ -> PS) (ok : σ -> Prop) {N : Nat} {f : Operand} {p0 p1 : Nat} {assign body : Code} {Q : Exit -> (Nat -> PV) -> PS -> List DefP -> Prop} {F : Nat -> PV} {S : PS} {D : List DefP} {id : Nat} {l : List Int} (s0 : σ)
    (hf : evP F f = .fn 243 [.ptr id 0]) (hS : S = Sx s0) (hbox : ∀ s, ok s -> (Sx s).boxes[id]? = some [O2 l]) (hleft : ∀ s i x, left (step s i x) = i) (hlen0 : left s0 = l.length) (hok0 : ok s0) (hok : ∀ s i, i < l.length -> left s = i + 1 -> ok s -> ok (step s i (l.getD i 0))) (hmon : ∀ s, (Sx s0).boxes.length <= (Sx s).boxes.length /\ (Sx s0).toks.length <= (Sx s).toks.length)
    (hround : ∀ s i, i < l.length -> left s = i + 1 -> ok s -> PW Tryz.prog N assign (Xk (PW Tryz.prog N body (fun e _ S' => e = .normal /\ S'.cut (Sx (step s i (l.getD i 0))).boxes.length (Sx (step s i (l.getD i 0))).toks.length = Sx (step s i (l.getD i 0)) /\ (S'.boxes.take (Sx (step s i (l.getD i 0))).boxes.length).all (fun c => PV.ltL (Sx (step s i (l.getD i 0))).boxes.length (Sx (step s i (l.getD i 0))).toks.length c) = true)) (fun _ _ _ => False)) (Ch N (some p1) (.d (.v (.int .u32 (l.getD i 0)))) (Ch N (some p0) (.d (.v (.int .i64 (i : Nat)))) F)) (Sx s))
    (hend : ok (Xl step l l.length s0) -> Q .normal F (Sx (Xl step l l.length s0)) (.mark :: D)) : PD Tryz.prog N (.rangeFunc f #[p0, p1] assign body) Q F S D := by
  subst hS
  refine ⟨fun b0 K w a hb hI hF hD => wpIn_wide (n := 6).1 ?_⟩
  have hfv := hF.ev f
  rw [hf] at hfv
  simp only [Rep, Bm] at hfv
  obtain ⟨cs, hfe, u, us, rfl, ⟨b, hβ, rfl⟩, rfl⟩ := hfv
  refine Ij rfl (by omega) hfe trivial (enters_of Tryz.func243 (by kernel_rfl) rfl) ?_
  intro ρ hr
  obtain ⟨mk, hmk⟩ : ∃ mk, w.heap.size = mk := ⟨_, rfl⟩
  obtain ⟨W0, hW0⟩ : ∃ W0, (w.alloc (.deferred (some []))).alloc (.loop (ρ .ready none)) = W0 := ⟨_, rfl⟩
  have hB0 : Below w.heap.size w W0 := by rw [<- hW0]; exact ((Below.refl _ _).alloc (Nat.le_refl _) _).alloc (by simp) _
  have hm0 : W0.heap[mk]? = some (.deferred (some [])) := by rw [<- hW0, <- hmk]; exact At (A2 rfl)
  have hl0 : W0.heap[mk + 1]? = some (.loop (ρ .ready none)) := by rw [<- hW0, <- hmk]; exact A2 (by simp)
  rw [hmk] at hr |-
  rw [hW0]
  obtain ⟨hI0, hs0⟩ := hI.below hB0
  let J : σ -> World -> Prop := fun s W => ∃ K', Step K K' w W /\ Inv K' (Sx s) W /\ W.heap[mk + 1]? = some (.loop (ρ .ready none)) /\ W.heap[mk]? = some (.deferred (some [])) /\ L8 K' W (mk + 1) /\ L8 K' W mk /\ ok s
  have hC : ∀ s W, J s W -> LimAt W b l := by
    rintro s W ⟨K', hs, hI', _, _, _, _, hks⟩
    have hβ' : K'.β[id]? = some b := hs.β _ _ hβ
    obtain ⟨c, hc, hlt, C, ty, hC, hcC, hone⟩ := hI'.boxLt hβ'
    rw [hbox s hks] at hc; cases hc
    simp only [Bm] at hcC
    obtain ⟨sl, l0, e0, r3, rfl⟩ := hcC
    simp only [Rep] at r3
    refine limG r3 ?_
    have : C = #[sl] := by apply Array.ext'; rw [e0]
    rw [this] at hC
    exact cell_of_row _ _ _ _ _ _ hC
  have hYld : ∀ s i W, i < l.length -> left s = i + 1 -> J s W -> YieldAt Fence.wide 4 Tryz.prog (mk + 1) #[.int .i64 (i : Nat), .int .u32 (l.getD i 0)] W (fun e W' => e = .returned (.bool true) /\ J (step s i (l.getD i 0)) W') := by
    rintro s i W hi hlf ⟨K', hs, hI', hl, hm, fl, fm, hks⟩
    refine hr #[_, _] W _ rfl hl ?_
    have hF1 : FrameRep K' W N F { a with defers := [] } := ⟨hF.size, fun t => Rep.step hs _ _ (hF.rep t)⟩
    have hF2 := (hF1.put (dst := some p0) (r := .d (.v (.int .i64 (i : Nat)))) (Step.refl K' W) (Hf rfl)).put (dst := some p1) (r := .d (.v (.int .u32 (l.getD i 0)))) (Step.refl K' W) (Hf rfl)
    refine wpIn_mono ((hround s i hi hlf hks).run (some (mk + 1)) _ K' W _ hI' (by simpa [Act.put] using hF2)) ?_
    rintro e a1 w1 ⟨K2, F2, S2, s2, i2, f2, d2, q2⟩
    cases e with
    | normal =>
      obtain ⟨fl2, el2⟩ := fl.step s2
      obtain ⟨fm2, em2⟩ := fm.step s2
      have hl2 := el2.trans hl
      refine ⟨hl2, ?_⟩
      have i3 := i2.putO (o' := .loop (ρ .busy none)) hl2 rfl rfl
      refine wpIn_mono (PW.run q2 (some (mk + 1)) _ K2 _ a1 i3 (f2.putO hl2 rfl rfl)) ?_
      rintro e4 a4 w4 ⟨K4, F4, S4, s4, i4, _, _, rfl, hq2, hq3⟩
      obtain ⟨fl4, el4⟩ := (fl2.put (o := .loop (ρ .busy none)) (l := mk + 1)).step s4
      obtain ⟨fm4, em4⟩ := (fm2.put (o := .loop (ρ .busy none)) (l := mk + 1)).step s4
      have hl4 : w4.heap[mk + 1]? = some (.loop (ρ .busy none)) := el4.trans (World.putObj_heap_same fl2.1)
      have hm4 : w4.heap[mk]? = some (.deferred (some [])) := em4.trans ((World.putObj_heap_other (by omega)).trans (em2.trans hm))
      have hcut := i4.cut hq3
      rw [hq2] at hcut
      have sK2 : Step K K2 w (w1.putObj (mk + 1) (.loop (ρ .busy none))) := (hs.trans hI s2).putO hl2 rfl rfl (by omega)
      have sK4 : Step K (K4.cut (Sx (step s i (l.getD i 0))).boxes.length (Sx (step s i (l.getD i 0))).toks.length) w w4 := Gb hI (sK2.trans hI s4) (hmon _).1 (hmon _).2
      refine ⟨hl4, rfl, ?_⟩
      exact ⟨_, sK4.putO hl4 rfl rfl (by omega), hcut.putO hl4 rfl rfl, World.putObj_heap_same fl4.1, (World.putObj_heap_other (by omega)).trans hm4, fl4.cut.put, fm4.cut.put, hok s i hi hlf hks⟩
    | ret => exact q2.elim
    | exit id => exact q2.elim
    | goto l => exact q2.elim
    | panic c => exact q2.elim
    | outgrown => exact q2.elim
  have hJ0 : J s0 W0 := ⟨K, hs0, hI0, hl0, hm0, L8.new hI (by omega) (Array.getElem?_eq_some_iff.1 hl0).1, L8.new hI (by omega) (Array.getElem?_eq_some_iff.1 hm0).1, hok0⟩
  refine (callsIn_wide.2 (backG step left hleft J (mk + 1) b l hC hYld s0 hlen0 W0 hJ0)).mono ?_
  have hmks := Xw hD
  rw [hmk] at hmks
  rintro e W ⟨rfl, K', hs, hI', hl, hm, fl, fm, hks⟩
  refine .inl ⟨hl, K', F, _, _, hs.putO hl rfl rfl (by omega), hI'.putO hl rfl rfl, ?_, ?_, hend hks⟩
  . exact ⟨hF.size, fun t => Rep.putO hl rfl rfl _ _ (Rep.step hs _ _ (hF.rep t))⟩
  . refine ⟨mk, a.defers, rfl, ⟨by omega, (World.putObj_heap_other (by omega)).trans hm, fm.2⟩, hmks, ?_⟩
    exact (hD.step hs).putO hl rfl rfl fun d hd => by have := Rl hD d hd; rw [hmk] at this; exact this
end Go.Proofs.YtiledamgmppcmaaGreatDoor
namespace Go.Proofs.YtiledamgmppcmaaGreatDoor
open Go.RowKit
def Abf : List Int -> Int
  | [] => 0
  | x :: r => x + 1000000000 * Abf r
def Dw (x : Int) : Prop := 0 <= x /\ x < 1000000000
theorem Zx : ∀ {l : List Int}, (∀ x ∈ l, Dw x) -> 0 <= Abf l
  | [], _ => by simp [Abf]
  | x :: r, h => by
    have h1 := Zx (l := r) fun y hy => h y (List.mem_cons_of_mem _ hy)
    have h2 := (h x List.mem_cons_self).1
    simp only [Abf]; omega
theorem Ao6 {l : List Int} {i : Nat} (h : i < l.length) : Abf (l.drop i) = l.getD i 0 + 1000000000 * Abf (l.drop (i + 1)) := by
  rw [List.drop_eq_getElem_cons h, Abf, List.getD_eq_getElem?_getD, List.getElem?_eq_getElem h]; rfl
theorem Ao7 : ∀ {l : List Int}, (∀ x ∈ l, Dw x) -> Abf l < 1000000000 ^ l.length
  | [], _ => by simp [Abf]
  | x :: r, h => by
    have h1 := Ao7 (l := r) fun y hy => h y (List.mem_cons_of_mem _ hy)
    have h2 := (h x List.mem_cons_self).2
    simp only [Abf, List.length_cons, Int.pow_succ]; omega
theorem U6 {l : List Int} (h : ∀ x ∈ l, Dw x) {i : Nat} (hi : i < l.length) : Dw (l.getD i 0) := by
  rw [List.getD_eq_getElem?_getD, List.getElem?_eq_getElem hi]; exact h _ (List.getElem_mem hi)
theorem Af6 {l : List Int} : ∀ n s, Xl (fun (_ : Nat) i (_ : Int) => i) l (n + 1) s = 0
  | 0, s => rfl
  | n + 1, s => by rw [Xl]; exact Af6 n _
theorem Abh {l : List Int} : Xl (fun (_ : Nat) i (_ : Int) => i) l l.length l.length = 0 := by
  cases h : l.length with
  | zero => rfl
  | succ n => exact Af6 n _
theorem Alx (l : List Int) (S : PS) : An 231 [O2 l] S (.ret (.fn 243 [.ptr S.boxes.length 0])) (S.addBox [O2 l]) := by
  refine ⟨enters_of Tryz.func231 rfl rfl, Xr Tryz.func231 rfl (Nat.le_of_ble_eq_true rfl) ?_⟩
  refine C5 ?_
  refine Bx ?_
  refine wstB rfl rfl rfl rfl trivial ?_
  refine wst rfl rfl trivial ?_
  refine Ca ?_
  refine C5 ?_
  refine Bx ?_
  refine wstB rfl rfl rfl rfl trivial ?_
  refine wst rfl rfl trivial ?_
  refine Ca ?_
  refine Jq ?_
  exact ⟨.inr rfl, rfl, _, B6 rfl, rfl⟩
theorem value_do (l : List Int) (hl : l.length <= 2) (hok : ∀ x ∈ l, Dw x) : An 205 [O2 l] ⟨[], []⟩ (.ret (.d (.v (.int .u64 (Abf l))))) ⟨[], []⟩ := by
  refine ⟨enters_of Tryz.func205 rfl rfl, Dm H5 Tryz.func205 rfl (Nat.le_of_ble_eq_true rfl) rfl (by simp) ?_⟩
  refine Av (Bv ?_)
  repeat' (first | refine rl0 ?_ | refine rs0 (fun h => ?_) (fun h => ?_) | fail)
  refine Av (Bv ?_)
  repeat' (first | refine rl0 ?_ | refine rs0 (fun h => ?_) (fun h => ?_) | fail)
  refine Av (Av (Bv ?_))
  repeat' (first | refine rl0 ?_ | refine rs0 (fun h => ?_) (fun h => ?_) | fail)
  refine wcw (Alx l _) rfl rfl rfl (by repeat (first | exact Ad | refine Aa (Ab _) ?_)) ?_
  repeat' (first | refine rl0 ?_ | refine rs0 (fun h => ?_) (fun h => ?_) | fail)
  refine Acj ?_
  refine Ahh [(3, .ptr 0 0), (7, .fn 243 [.ptr 1 0])] (by repeat (first | exact Ag | refine Ac rfl ?_)) ?_
  have hsm : ∀ i, i <= l.length -> 0 <= Abf (l.drop i) /\ Abf (l.drop i) < 1000000000 ^ (l.length - i) := fun i hi => by
    have ho : ∀ x ∈ l.drop i, Dw x := fun x hx => hok x (List.mem_of_mem_drop hx)
    have := Ao7 ho
    rw [List.length_drop] at this
    exact ⟨Zx ho, this⟩
  refine An2 (fun _ i _ => i) (fun s => s) (fun s => ⟨[[.d (.v (.int .u64 (Abf (l.drop s))))], [O2 l]], []⟩) (fun s => s <= l.length) (id := 1) (l := l) l.length rfl (by simp [Abf]; rfl) (fun _ _ => rfl) (fun _ _ _ => rfl) rfl (Nat.le_refl _) (fun _ _ h _ _ => Nat.le_of_lt h) (fun _ => ⟨Nat.le_refl _, Nat.le_refl _⟩) ?_ ?_
  . rintro s i hi hs _
    obtain rfl : s = i + 1 := hs
    obtain ⟨h1, h2⟩ := hsm (i + 1) hi
    obtain ⟨h3, h4⟩ := hsm i (by omega)
    obtain ⟨h5, h6⟩ := U6 hok hi
    have h7 := Ao6 hi
    have h8 : (1000000000 : Int) ^ (l.length - (i + 1)) <= 1000000000 := by
      have : l.length - (i + 1) = 0 \/ l.length - (i + 1) = 1 := by omega
      rcases this with h | h <;> rw [h] <;> decide
    repeat' (first | refine rl0 ?_ | refine rs0 (fun h => ?_) (fun h => ?_) | fail)
    refine wst rfl rfl ⟨by show (0 : Int) <= _; omega, by show _ <= (18446744073709551615 : Int); omega⟩ ?_
    repeat' (first | refine rl0 ?_ | refine rs0 (fun h => ?_) (fun h => ?_) | fail)
    refine ⟨rfl, ?_, rfl⟩
    rw [h7]
    show (⟨[[.d (.v (.int .u64 (_ + _)))], _], _⟩ : PS) = ⟨[[.d (.v (.int .u64 (_ + _)))], _], _⟩
    rw [Int.mul_comm, Int.add_comm]
    rfl
  . intro _
    rw [Abh]
    refine Bv ?_
    repeat' (first | refine rl0 ?_ | refine rs0 (fun h => ?_) (fun h => ?_) | fail)
    exact ⟨none, .inl ⟨rfl, .inr rfl⟩, _, rfl, rfl, rfl, .inr rfl, _, B6 rfl, rfl, rfl⟩
end Go.Proofs.YtiledamgmppcmaaGreatDoor
namespace Go.Proofs.YtiledamgmppcmaaGreatDoor
open Go.RowKit
def qL (by' : Int) : List Int -> List Int × Int
  | [] => ([], 0)
  | x :: r => (((qL by' r).2 * 1000000000 + x) / by' :: (qL by' r).1, ((qL by' r).2 * 1000000000 + x) % by')
theorem An7 (b : Int) : ∀ l, (qL b l).1.length = l.length
  | [] => rfl
  | x :: r => by simp [qL, An7 b r]
theorem Acn {b : Int} (hb : 0 < b) : ∀ {l : List Int}, (∀ x ∈ l, Dw x) -> Abf l = b * Abf (qL b l).1 + (qL b l).2 /\ 0 <= (qL b l).2 /\ (qL b l).2 < b /\ ∀ x ∈ (qL b l).1, Dw x
  | [], _ => by simp [qL, Abf, hb]
  | x :: r, h => by
    obtain ⟨h1, h2, h3, h4⟩ := Acn hb (l := r) fun y hy => h y (List.mem_cons_of_mem _ hy)
    obtain ⟨h5, h6⟩ := h x List.mem_cons_self
    simp only [qL, Abf]
    have hd := Int.mul_ediv_add_emod ((qL b r).2 * 1000000000 + x) b
    refine ⟨?_, Int.emod_nonneg _ (by omega), Int.emod_lt_of_pos _ hb, ?_⟩
    . rw [Int.mul_add, h1, Int.mul_add, <- Int.mul_assoc, <- Int.mul_assoc, Int.mul_comm b 1000000000]
      omega
    . intro y hy
      rcases List.mem_cons.1 hy with rfl | hy
      . refine ⟨Int.ediv_nonneg (by omega) (by omega), Int.ediv_lt_of_lt_mul hb ?_⟩
        have h7 : ((qL b r).2 + 1) * 1000000000 <= b * 1000000000 := Int.mul_le_mul_of_nonneg_right (by omega) (by decide)
        rw [Int.mul_comm b] at h7; omega
      . exact h4 y hy
def qAt (b : Int) (l : List Int) (j : Nat) : List Int := List.replicate j 0 ++ (qL b (l.drop j)).1
@[reducible] def Adq (l : List Int) : List PV := l.map fun x => .d (.v (.int .u32 x))
theorem Agz {n m : Nat} : ∀ l : List Int, PV.ltL n m (Adq l) = true
  | [] => rfl
  | x :: r => by simp only [List.map_cons, PV.ltL, PV.lt, Bool.true_and]; exact Agz r
@[reducible] def shS (b : Int) (l : List Int) (j : Nat) : PS := ⟨[[.d (.v (.int .u32 b))], Adq (qAt b l j), [.bsl 1 1 0 l.length l.length], [.d (.v (.int .u64 (qL b (l.drop j)).2))], [O2 l]], []⟩
theorem short_do (l : List Int) (b : Int) (hl : l.length <= 1000000) (hok : ∀ x ∈ l, Dw x) (hb : Dw b) (hb0 : 0 < b) : An 227 [O2 l, .d (.v (.int .u32 b))] ⟨[], []⟩ (.ret (.tup [O2 (qL b l).1, .d (.v (.int .u32 (qL b l).2))])) ⟨[], []⟩ := by
  have key : An 227 [O2 l, .d (.v (.int .u32 b))] ⟨[], []⟩ (.ret (.tup [.bsl 1 1 0 l.length l.length, .d (.v (.int .u32 (qL b l).2))])) (shS b l 0) := by
    refine ⟨enters_of Tryz.func227 rfl rfl, Amh H5 Tryz.func227 rfl (Nat.le_of_ble_eq_true rfl) (Nat.zero_le _) (Nat.zero_le _) ?_⟩
    refine Av (Bv ?_)
    repeat' (first | refine rl1 ?_ | refine rs1 (fun h => ?_) (fun h => ?_) | fail)
    refine Av (Bv ?_)
    repeat' (first | refine rl1 ?_ | refine rs1 (fun h => ?_) (fun h => ?_) | fail)
    refine wmakeB (.int .u32 0) rfl rfl rfl rfl rfl rfl rfl (by rw [List.length_map]; show 4 * _ <= _; omega) (by rw [List.length_map]; omega) ?_
    repeat' (first | refine rl1 ?_ | refine rs1 (fun h => ?_) (fun h => ?_) | fail)
    refine Av (Bv ?_)
    repeat' (first | refine rl1 ?_ | refine rs1 (fun h => ?_) (fun h => ?_) | fail)
    refine Av (Av (Bv ?_))
    repeat' (first | refine rl1 ?_ | refine rs1 (fun h => ?_) (fun h => ?_) | fail)
    refine wcw (Alx l _) rfl rfl rfl (by repeat (first | exact Ad | refine Aa (Ab _) ?_)) ?_
    repeat' (first | refine rl1 ?_ | refine rs1 (fun h => ?_) (fun h => ?_) | fail)
    refine Acj ?_
    refine Ahh [(3, .ptr 0 0), (6, .ptr 2 0), (7, .ptr 3 0), (15, .fn 243 [.ptr 4 0])] (by repeat (first | exact Ag | refine Ac rfl ?_)) ?_
    refine An2 (fun _ i _ => i) (fun s => s) (shS b l) (fun s => s <= l.length) (id := 4) (l := l) l.length rfl ?_ (fun _ _ => rfl) (fun _ _ _ => rfl) rfl (Nat.le_refl _) (fun _ _ h _ _ => Nat.le_of_lt h) (fun _ => ⟨Nat.le_refl _, Nat.le_refl _⟩) ?_ ?_
    . simp [shS, qAt, Adq, qL]
      rfl
    . rintro s i hi hs _
      obtain rfl : s = i + 1 := hs
      obtain ⟨h5, h6⟩ := U6 hok hi
      obtain ⟨_, h7, h8, _⟩ := Acn hb0 (l := l.drop (i + 1)) fun x hx => hok x (List.mem_of_mem_drop hx)
      have hb2 := hb.2
      have h9 : (qL b (l.drop (i + 1))).2 * 1000000000 <= 1000000000 * 1000000000 := Int.mul_le_mul_of_nonneg_right (by omega) (by decide)
      have ed : l.drop i = l.getD i 0 :: l.drop (i + 1) := by rw [List.drop_eq_getElem_cons hi, List.getD_eq_getElem?_getD, List.getElem?_eq_getElem hi]; rfl
      have h10 := (Acn hb0 (l := l.drop i) fun x hx => hok x (List.mem_of_mem_drop hx)).2.2.2 _ (by rw [ed, qL]; exact List.mem_cons_self)
      have h11 := h10.1
      have h12 := h10.2
      have h13 : 0 <= (qL b (l.drop (i + 1))).2 * 1000000000 + l.getD i 0 /\ (qL b (l.drop (i + 1))).2 * 1000000000 + l.getD i 0 <= 1000000000 * 1000000000 + 1000000000 := by omega
      have h14 := Int.emod_nonneg ((qL b (l.drop (i + 1))).2 * 1000000000 + l.getD i 0) (b := b) (by omega)
      have h15 := Int.emod_lt_of_pos ((qL b (l.drop (i + 1))).2 * 1000000000 + l.getD i 0) hb0
      repeat' (first | refine rl2 ?_ | refine rs2 (fun h => ?_) (fun h => ?_) | fail)
      refine wst rfl rfl ⟨by show (0 : Int) <= _; omega, by show _ <= (18446744073709551615 : Int); omega⟩ ?_
      repeat' (first | refine rl2 ?_ | refine rs2 (fun h => ?_) (fun h => ?_) | fail)
      refine Dx (fun k => Nat.ble 12 k) [0, 2] [] rfl (by kernel_rfl) ?_
      refine wafl (id := 2) rfl rfl rfl rfl rfl (by simp) rfl rfl ?_
      refine waf rfl rfl (fun _ _ => rfl) trivial ?_
      refine waf rfl rfl (fun _ _ => rfl) trivial ?_
      refine wafl (id := 0) rfl rfl rfl rfl rfl (by simp) rfl rfl ?_
      refine waf rfl rfl (fun _ _ => rfl) ⟨by show (0 : Int) <= _; omega, by show _ <= (18446744073709551615 : Int); omega⟩ ?_
      refine waf rfl rfl (fun _ _ => rfl) ⟨by omega, by omega, by show _ <= (18446744073709551615 : Int); omega⟩ ?_
      refine waf rfl rfl (fun _ _ => rfl) ⟨by show (0 : Int) <= _; omega, by show _ <= (4294967295 : Int); omega⟩ ?_
      refine waf rfl rfl (fun _ _ => rfl) trivial ?_
      refine wafl (id := 0) rfl rfl rfl rfl rfl (by simp) rfl rfl ?_
      refine waf rfl rfl (fun _ _ => rfl) ⟨by show (0 : Int) <= _; omega, by show _ <= (18446744073709551615 : Int); omega⟩ ?_
      refine waf rfl rfl (fun _ _ => rfl) ⟨by omega, by omega⟩ ?_
      refine waf rfl rfl (fun _ _ => rfl) ⟨by omega, by omega⟩ ?_
      refine waco (id := 1) i rfl rfl rfl rfl (by show PV.ptr 1 (0 + ((i : Int)).toNat * 1) = _; simp) rfl rfl (by simp [qAt, An7]; omega) rfl ⟨fun id hid => ?_, by simp⟩ ?_
      . simp at hid; rcases hid with rfl | rfl <;> rfl
      refine wac rfl rfl rfl rfl rfl trivial ⟨fun id hid => ?_, by simp⟩ ?_
      . simp at hid; rcases hid with rfl | rfl <;> rfl
      refine Gw ?_
      have e1 : (Adq (qAt b l (i + 1))).set i (.d (.v (.int .u32 (((qL b (l.drop (i + 1))).2 * 1000000000 + l.getD i 0) / b)))) = Adq (qAt b l i) := by
        have e2 : (l.drop i) = l.getD i 0 :: l.drop (i + 1) := ed
        simp only [qAt, e2, qL, Adq, List.replicate_succ', List.map_append, List.append_assoc]
        rw [List.set_append_right _ _ (by simp)]
        simp
      have e3 : ((qL b (l.drop (i + 1))).2 * 1000000000 + l.getD i 0) % b = (qL b (l.drop i)).2 := by rw [ed, qL]
      have hS : ∀ z q, z = (qL b (l.drop i)).2 -> q = Adq (qAt b l i) -> (⟨[[.d (.v (.int .u32 b))], q, [.bsl 1 1 0 l.length l.length], [.d (.v (.int .u64 z))], [O2 l]], []⟩ : PS) = shS b l i := by rintro _ _ rfl rfl; rfl
      refine ⟨rfl, hS _ _ e3 e1, ?_⟩
      have h16 : ∀ z q, z = (qL b (l.drop i)).2 -> q = Adq (qAt b l i) -> (PV.ltL 5 0 [.d (.v (.int .u32 b))] && (PV.ltL 5 0 q && (PV.ltL 5 0 [.bsl 1 1 0 l.length l.length] && (PV.ltL 5 0 [.d (.v (.int .u64 z))] && (PV.ltL 5 0 [O2 l] && true))))) = true := by rintro _ _ rfl rfl; rw [Agz]; rfl
      exact h16 _ _ e3 e1
    . intro _
      rw [Abh]
      have h1 := Acn hb0 hok
      have hb2 := hb.2
      have h2 := h1.2.1
      have h3 := h1.2.2.1
      refine Bv ?_
      repeat' (first | refine rl1 ?_ | refine rs1 (fun h => ?_) (fun h => ?_) | fail)
      refine waf rfl rfl (fun _ _ => rfl) ⟨by show (0 : Int) <= (qL b l).2; omega, by show (qL b l).2 <= (4294967295 : Int); omega⟩ ?_
      repeat' (first | refine rl1 ?_ | refine rs1 (fun h => ?_) (fun h => ?_) | fail)
      refine ⟨none, .inl ⟨rfl, .inr rfl⟩, _, rfl, ?_, rfl, .inr rfl, _, B6 rfl, rfl, rfl⟩
      show (PV.ltL 5 0 [.d (.v (.int .u32 b))] && (PV.ltL 5 0 (Adq (qAt b l 0)) && (PV.ltL 5 0 [.bsl 1 1 0 l.length l.length] && (PV.ltL 5 0 [.d (.v (.int .u64 (qL b (l.drop 0)).2))] && (PV.ltL 5 0 [O2 l] && true))))) = true
      rw [Agz]; rfl
  have hr := does_ret 0 0 key (Nat.zero_le _) (Nat.zero_le _) rfl (r' := .tup [O2 (qL b l).1, .d (.v (.int .u32 (qL b l).2))]) ?_
  . exact hr
  . have hlen : l.length = ((qL b l).1.map fun x => DV.v (.int .u32 x)).length := by simp [An7]
    refine ret_tup (Vm ?_ (Vm ret_d Ajj))
    have h := Aoa (S := shS b l 0) (n := 0) (m := 0) (k := 1) (id := 1) (cap := l.length) (ds := (qL b l).1.map fun x => .v (.int .u32 x)) (by simp [qAt, Adq]) (Nat.zero_le _) (by rw [<- hlen]; exact Nat.le_refl _) (by omega)
    rw [<- hlen] at h
    simpa [O2, Z7, Function.comp_def] using h
end Go.Proofs.YtiledamgmppcmaaGreatDoor
namespace Go.Proofs.YtiledamgmppcmaaGreatDoor
open Go.RowKit
def N4 : List Int -> List Int
  | [] => []
  | x :: r => match N4 r with
    | [] => if x = 0 then [] else [x]
    | y :: s => x :: y :: s
theorem Ww : ∀ (l : List Int) (x : Int), N4 (l ++ [x]) = if x = 0 then N4 l else l ++ [x]
  | [], x => by simp [N4]
  | a :: l, x => by
    rw [List.cons_append, N4, Ww l x]
    by_cases h : x = 0
    . simp only [if_pos h]; rw [N4]
    . simp only [if_neg h]
      cases l with
      | nil => rfl
      | cons b l => rfl
@[reducible] def whP (neg : Bool) (l : List Int) : PV := .agg [A7 neg, O2 l]
theorem wfinT {neg : Bool} {l : List Int} {j : Nat} (e : l.take j = N4 l) (h : neg = true) : PV.agg [.d (.v (.bool (decide ((0 : Int) < ((l.take j).map Z7).length)))), .d (.sl 1 ((l.take j).map Z7))] = whP (neg && !decide (N4 l = [])) (N4 l) := by
  subst h
  rw [e]
  cases N4 l <;> simp
theorem wfinF {neg : Bool} {l : List Int} {j : Nat} (e : l.take j = N4 l) (h : neg = false) : PV.agg [.d (.v (.bool false)), .d (.sl 1 ((l.take j).map Z7))] = whP (neg && !decide (N4 l = [])) (N4 l) := by
  subst h
  rw [e]; rfl
theorem whole_do (neg : Bool) (l : List Int) : An 177 [A7 neg, O2 l] ⟨[], []⟩ (.ret (whP (neg && !decide (N4 l = [])) (N4 l))) ⟨[], []⟩ := by
  refine G5 Tryz.func177 rfl rfl (Nat.le_of_ble_eq_true rfl) rfl (Nat.le_refl _) ?_
  intro hf
  have hl : l.length <= 9223372036854775807 := by have := hf.2.1; simpa [Amo] using this
  repeat' (first | refine rl0 ?_ | refine rs0 (fun h => ?_) (fun h => ?_) | fail)
  refine Bt (ι := Nat) (ok := fun j => j <= l.length /\ N4 (l.take j) = N4 l) (L := fun j => [(0, A7 neg), (1, O2 (l.take j)), (4, .ptr 0 0)]) (Sx := fun _ => ⟨[[A7 false, .d (.v (.slice none 0 0))]], []⟩) (μ := fun j => j) l.length ⟨Nat.le_refl _, by simp⟩ (by refine Ac rfl (Ac ?_ (Ac rfl Ag)); rw [List.take_length]; rfl) rfl ?_
  rintro j ⟨hj, ht⟩
  have hlen : ((l.take j).map Z7).length = j := by simp; omega
  repeat' (first | refine rl0 ?_ | refine rs0 (fun h => ?_) (fun h => ?_) | fail)
  . have h0 : 0 < j := by rw [hlen] at h; simpa using h
    obtain ⟨i, rfl⟩ : ∃ i, j = i + 1 := ⟨j - 1, by omega⟩
    have hi : i < l.length := by omega
    have hsn : l.take (i + 1) = l.take i ++ [l[i]] := List.take_succ_eq_append_getElem hi
    refine wix (Z7 l[i]) rfl rfl rfl rfl rfl (by rw [hlen]; simp [show ((i : Int) + 1 - 1).toNat = i from by omega, hi]) (by rw [hlen]; omega) ?_
    repeat' (first | refine rl0 ?_ | refine rs0 (fun h => ?_) (fun h => ?_) | fail)
    . have hx : l[i] = 0 := by simpa using h
      refine ⟨i, ⟨by omega, ?_⟩, by omega, by
        refine Ac rfl (Ac ?_ (Ac rfl Ag))
        show PV.d (.sl 1 _) = PV.d (.sl 1 _)
        rw [hlen, hsn]
        simp [show ((i : Int) + 1 - 1).toNat = i from by omega, List.take_take], rfl⟩
      rw [<- ht, hsn, Ww, if_pos hx]
    all_goals
      have e : l.take (i + 1) = N4 l := by
        rw [<- ht, hsn, Ww, if_neg]
        rename_i hz; simpa using hz
      first | exact wfinT e h | exact wfinF e h
  all_goals
    have e : l.take j = N4 l := by
      have h0 : j = 0 := by rename_i hz; rw [hlen] at hz; simp at hz; omega
      rw [<- ht, h0]; rfl
    first | exact wfinT e h | exact wfinF e h
end Go.Proofs.YtiledamgmppcmaaGreatDoor
namespace Go.Proofs.YtiledamgmppcmaaGreatDoor
open Go.RowKit
def Afr (x : Int) (o : List Int) (i : Nat) (u : List Int) : Nat -> List Int × Int
  | 0 => (u, 0)
  | k + 1 => ((Afr x o i u k).1.set (i + k) ((x * o.getD k 0 + (Afr x o i u k).1.getD (i + k) 0 + (Afr x o i u k).2) % 1000000000), (x * o.getD k 0 + (Afr x o i u k).1.getD (i + k) 0 + (Afr x o i u k).2) / 1000000000)
def rowL (x : Int) (o : List Int) (i : Nat) (u : List Int) : List Int := (Afr x o i u o.length).1.set (i + o.length) (Afr x o i u o.length).2
def Rn (m o : List Int) : Nat -> List Int
  | 0 => List.replicate (m.length + o.length) 0
  | i + 1 => rowL (m.getD i 0) o i (Rn m o i)
def mulL (m o : List Int) : List Int := Rn m o m.length
theorem X3 (x : Int) (o : List Int) (i : Nat) (u : List Int) : ∀ k, (Afr x o i u k).1.length = u.length
  | 0 => rfl
  | k + 1 => by simp [Afr, X3 x o i u k]
theorem rowL_len (x : Int) (o : List Int) (i : Nat) (u : List Int) : (rowL x o i u).length = u.length := by simp [rowL, X3]
theorem Va (m o : List Int) : ∀ i, (Rn m o i).length = m.length + o.length
  | 0 => by simp [Rn]
  | i + 1 => by rw [Rn, rowL_len, Va m o i]
theorem Rg {l : List Int} (h : ∀ z ∈ l, Dw z) (i : Nat) : Dw (l.getD i 0) := by
  by_cases hi : i < l.length
  . exact U6 h hi
  . rw [List.getD_eq_getElem?_getD, List.getElem?_eq_none (by omega)]; exact ⟨by simp, by simp⟩
theorem set_ok {l : List Int} {i : Nat} {v : Int} (h : ∀ z ∈ l, Dw z) (hv : Dw v) : ∀ z ∈ l.set i v, Dw z := fun x hx => by
  rcases List.mem_or_eq_of_mem_set hx with h1 | rfl
  . exact h x h1
  . exact hv
theorem Am9 {x y u c : Int} (hx : Dw x) (hy : Dw y) (hu : Dw u) (hc : Dw c) : 0 <= x * y /\ 0 <= x * y + u + c /\ x * y + u + c < 1000000000 * 1000000000 := by
  obtain ⟨h1, h2⟩ := hx
  obtain ⟨h3, h4⟩ := hy
  obtain ⟨h5, h6⟩ := hu
  obtain ⟨h7, h8⟩ := hc
  have a := Int.mul_nonneg h1 h3
  have b : x * y <= 999999999 * 999999999 := Int.mul_le_mul (by omega) (by omega) h3 (by omega)
  omega
theorem Acu {x : Int} {o u : List Int} {i : Nat} (hx : Dw x) (ho : ∀ z ∈ o, Dw z) (hu : ∀ z ∈ u, Dw z) : ∀ k, (∀ z ∈ (Afr x o i u k).1, Dw z) /\ Dw (Afr x o i u k).2
  | 0 => ⟨hu, by simp [Afr, Dw]⟩
  | k + 1 => by
    obtain ⟨h1, h2⟩ := Acu (i := i) hx ho hu k
    have h3 := Am9 hx (Rg ho k) (Rg h1 (i + k)) h2
    refine ⟨set_ok h1 ⟨Int.emod_nonneg _ (by omega), Int.emod_lt_of_pos _ (by omega)⟩, ?_⟩
    simp only [Afr, Dw]; omega
theorem rowL_ok {x : Int} {o u : List Int} {i : Nat} (hx : Dw x) (ho : ∀ z ∈ o, Dw z) (hu : ∀ z ∈ u, Dw z) : ∀ z ∈ rowL x o i u, Dw z := set_ok (Acu hx ho hu _).1 (Acu hx ho hu _).2
theorem Ai4 {m o : List Int} (hm : ∀ z ∈ m, Dw z) (ho : ∀ z ∈ o, Dw z) : ∀ i, ∀ z ∈ Rn m o i, Dw z
  | 0 => fun x hx => by rw [List.eq_of_mem_replicate hx]; exact ⟨by simp, by simp⟩
  | i + 1 => rowL_ok (Rg hm i) ho (Ai4 hm ho i)
theorem getD_some {l : List Int} {j : Nat} (h : j < l.length) : l[j]? = some (l.getD j 0) := by
  rw [List.getD_eq_getElem?_getD, List.getElem?_eq_getElem h]; rfl
theorem limC_get {l : List Int} {j : Nat} (h : j < l.length) : (Adq l)[j]? = some (.d (.v (.int .u32 (l.getD j 0)))) := by
  rw [List.getElem?_map, getD_some h]; rfl
theorem Ai1 (l : List Int) (j : Nat) (v : Int) : (Adq l).set j (.d (.v (.int .u32 v))) = Adq (l.set j v) := by simp [Adq, List.map_set]
theorem limC_rep (n : Nat) : Adq (List.replicate n 0) = List.replicate n (.d (.v (.int .u32 0))) := by simp [Adq]
@[reducible] def muS (na nb : Bool) (m o out : List Int) : PS := ⟨[[A7 na, O2 m], [A7 nb, O2 o], [A7 false, .d (.v (.slice none 0 0))], Adq out], []⟩
set_option maxHeartbeats 1000000 in
theorem mul_do (na nb : Bool) (m o : List Int) (hm : ∀ z ∈ m, Dw z) (ho : ∀ z ∈ o, Dw z) (hml : m.length <= 1000000) (hol : o.length <= 1000000) :
    An 135 [whP na m, whP nb o] ⟨[], []⟩ (.ret (whP (!decide (na = nb) && !decide (N4 (mulL m o) = [])) (N4 (mulL m o)))) ⟨[], []⟩ := by
  refine Aan Tryz.func135 rfl rfl (Nat.le_of_ble_eq_true rfl) (fun _ => ?_)
  have hsum : ((m.map Z7).length : Int) + ((o.map Z7).length : Int) = ((m.length + o.length : Nat) : Int) := by simp
  refine Rt ?_
  repeat' (first | refine rl1 ?_ | refine rs1 (fun h => ?_) (fun h => ?_) | fail)
  refine Rt ?_
  repeat' (first | refine rl1 ?_ | refine rs1 (fun h => ?_) (fun h => ?_) | fail)
  refine wmakeB (n := m.length + o.length) (.int .u32 0) rfl rfl rfl rfl rfl (by show PV.d (.v (.int .i64 (_ + _))) = _; rw [hsum]) (by show PV.d (.v (.int .i64 (_ + _))) = _; rw [hsum]) (by show 4 * _ <= _; omega) (by omega) ?_
  repeat' (first | refine rl1 ?_ | refine rs1 (fun h => ?_) (fun h => ?_) | fail)
  refine Rt ?_
  refine C5 ?_
  repeat' (first | refine rl1 ?_ | refine rs1 (fun h => ?_) (fun h => ?_) | fail)
  refine Bt (ι := Nat) (ok := fun i => i <= m.length) (L := fun i => [(2, .ptr 0 0), (3, .ptr 1 0), (4, .ptr 2 0), (5, .bsl 1 3 0 (m.length + o.length) (m.length + o.length)), (21, O2 m), (22, Ai (m.map Z7).length), (23, Ai i)]) (Sx := fun i => muS na nb m o (Rn m o i)) (μ := fun i => m.length - i) 0 (Nat.zero_le _) (by repeat (first | exact Ag | refine Ac rfl ?_)) (congrArg (fun q => (⟨[[A7 na, O2 m], [A7 nb, O2 o], [A7 false, .d (.v (.slice none 0 0))], q], []⟩ : PS)) (limC_rep _).symm) ?_
  rintro i hi
  have hx := Rg hm i
  repeat' (first | refine rl1 ?_ | refine rs1 (fun h => ?_) (fun h => ?_) | fail)
  . have hlt : i < m.length := by simpa using h
    refine wix (Z7 (m.getD i 0)) rfl rfl rfl rfl rfl (by rw [List.getD_eq_getElem?_getD]; simp [hlt]) (by omega) ?_
    repeat' (first | refine rl1 ?_ | refine rs1 (fun h => ?_) (fun h => ?_) | fail)
    refine Bt (ι := Nat) (ok := fun k => k <= o.length) (L := fun k => [(2, .ptr 0 0), (3, .ptr 1 0), (4, .ptr 2 0), (5, .bsl 1 3 0 (m.length + o.length) (m.length + o.length)), (6, Ai i), (7, .d (.v (.int .u32 (m.getD i 0)))), (8, .d (.v (.int .u64 (Afr (m.getD i 0) o i (Rn m o i) k).2))), (21, O2 m), (22, Ai (m.map Z7).length), (23, Ai i), (29, O2 o), (30, Ai (o.map Z7).length), (31, Ai k)]) (Sx := fun k => muS na nb m o (Afr (m.getD i 0) o i (Rn m o i) k).1) (μ := fun k => o.length - k) 0 (Nat.zero_le _) (by repeat (first | exact Ag | refine Ac rfl ?_)) rfl ?_
    rintro k hk
    obtain ⟨hu, hc⟩ := Acu (i := i) hx ho (Ai4 hm ho i) k
    have hn := Am9 hx (Rg ho k) (Rg hu (i + k)) hc
    repeat' (first | refine rl1 ?_ | refine rs1 (fun h => ?_) (fun h => ?_) | fail)
    . have hlk : k < o.length := by simpa using h
      refine wix (Z7 (o.getD k 0)) rfl rfl rfl rfl rfl (by rw [List.getD_eq_getElem?_getD]; simp [hlk]) (by omega) ?_
      have hul : (Afr (m.getD i 0) o i (Rn m o i) k).1.length = m.length + o.length := by rw [X3, Va]
      have hx1 := hx.1
      have hx2 := hx.2
      obtain ⟨hy1, hy2⟩ := Rg ho k
      obtain ⟨hu1, hu2⟩ := Rg hu (i + k)
      obtain ⟨hc1, hc2⟩ := hc
      obtain ⟨hn1, hn2, hn3⟩ := hn
      repeat' (first | refine rl1 ?_ | refine rs1 (fun h => ?_) (fun h => ?_) | fail)
      refine wst rfl rfl ⟨by show (0 : Int) <= _; omega, by show _ <= (18446744073709551615 : Int); omega⟩ ?_
      repeat' (first | refine rl1 ?_ | refine rs1 (fun h => ?_) (fun h => ?_) | fail)
      refine wst rfl rfl ⟨by show (0 : Int) <= _; omega, by show _ <= (18446744073709551615 : Int); omega⟩ ?_
      refine wst rfl rfl ⟨by show (0 : Int) <= _; omega, by show _ <= (18446744073709551615 : Int); omega⟩ ?_
      repeat' (first | refine rl1 ?_ | refine rs1 (fun h => ?_) (fun h => ?_) | fail)
      refine wsld (i + k) rfl rfl rfl (by show PV.ptr 3 (0 + ((i : Int) + (k : Int)).toNat * 1) = _; congr 1; omega) rfl (limC_get (by rw [hul]; omega)) ?_
      refine wst rfl rfl ⟨by show (0 : Int) <= _; omega, by show _ <= (18446744073709551615 : Int); omega⟩ ?_
      refine wst rfl rfl ⟨by show (0 : Int) <= _; omega, by show _ <= (18446744073709551615 : Int); omega⟩ ?_
      repeat' (first | refine rl1 ?_ | refine rs1 (fun h => ?_) (fun h => ?_) | fail)
      refine wst rfl rfl ⟨by show (0 : Int) <= _; omega, by show _ <= (18446744073709551615 : Int); omega⟩ ?_
      repeat' (first | refine rl1 ?_ | refine rs1 (fun h => ?_) (fun h => ?_) | fail)
      refine wst rfl rfl ⟨by show (0 : Int) <= _; omega, by show _ <= (4294967295 : Int); omega⟩ ?_
      repeat' (first | refine rl1 ?_ | refine rs1 (fun h => ?_) (fun h => ?_) | fail)
      refine wst rfl rfl ⟨by omega, by omega, by show _ <= (18446744073709551615 : Int); omega⟩ ?_
      repeat' (first | refine rl1 ?_ | refine rs1 (fun h => ?_) (fun h => ?_) | fail)
      refine wsto (id := 3) (i + k) rfl rfl rfl (by show PV.ptr 3 (0 + ((i : Int) + (k : Int)).toNat * 1) = _; congr 1; omega) rfl rfl (by rw [List.length_map, hul]; omega) rfl ?_
      repeat' (first | refine rl1 ?_ | refine rs1 (fun h => ?_) (fun h => ?_) | fail)
      refine ⟨k + 1, ?_, by omega, (by repeat (first | exact Ag | refine Ac rfl ?_)), congrArg (fun q => (⟨[[A7 na, O2 m], [A7 nb, O2 o], [A7 false, .d (.v (.slice none 0 0))], q], []⟩ : PS)) (Ai1 _ _ _)⟩
      omega
    . obtain rfl : k = o.length := by simp at h; omega
      obtain ⟨hc1, hc2⟩ := hc
      have hul : (Afr (m.getD i 0) o i (Rn m o i) o.length).1.length = m.length + o.length := by rw [X3, Va]
      repeat' (first | refine rl1 ?_ | refine rs1 (fun h => ?_) (fun h => ?_) | fail)
      refine wst rfl rfl ⟨by show (0 : Int) <= _; omega, by show _ <= (4294967295 : Int); omega⟩ ?_
      refine wst rfl rfl ⟨by omega, by simp; omega⟩ ?_
      refine wsto (id := 3) (i + o.length) rfl rfl rfl (by show PV.ptr 3 (0 + ((i : Int) + ((o.map Z7).length : Int)).toNat * 1) = _; rw [List.length_map]; congr 1; omega) rfl rfl (by rw [List.length_map, hul]; omega) rfl ?_
      repeat' (first | refine rl1 ?_ | refine rs1 (fun h => ?_) (fun h => ?_) | fail)
      refine ⟨i + 1, ?_, by omega, (by repeat (first | exact Ag | refine Ac rfl ?_)), congrArg (fun q => (⟨[[A7 na, O2 m], [A7 nb, O2 o], [A7 false, .d (.v (.slice none 0 0))], q], []⟩ : PS)) (Ai1 _ _ _)⟩
      omega
  . obtain rfl : i = m.length := by simp at h; omega
    refine Afk 3 0 [(2, .ptr 0 0), (3, .ptr 1 0), (4, .ptr 2 0), (5, O2 (Rn m o m.length))] (Nat.zero_le _) (Nat.zero_le _) rfl ?_ ?_
    . refine Mi (Y4 rfl) (Mi (Y4 rfl) (Mi (Y4 rfl) (Mi ?_ X1)))
      have hlen : m.length + o.length = ((Rn m o m.length).map fun x => DV.v (.int .u32 x)).length := by simp [Va]
      have h := Aoa (S := muS na nb m o (Rn m o m.length)) (n := 3) (m := 0) (k := 1) (id := 3) (cap := m.length + o.length) (ds := (Rn m o m.length).map fun x => .v (.int .u32 x)) (by simp [Adq]) (Nat.le_refl _) (by rw [<- hlen]; exact Nat.le_refl _) (by omega)
      rw [<- hlen] at h
      show Ret _ _ _ (.bsl 1 3 0 (m.length + o.length) (m.length + o.length)) _
      simpa [O2, Z7, Function.comp_def] using h
    . refine pb_pw ?_
      have e : PS.cut (muS na nb m o (Rn m o m.length)) 3 0 = ⟨[[A7 na, O2 m], [A7 nb, O2 o], [A7 false, .d (.v (.slice none 0 0))]], []⟩ := rfl
      rw [e]
      repeat' (first | refine rl1 ?_ | refine rs1 (fun h => ?_) (fun h => ?_) | fail)
      refine D3 (whole_do (!decide (na = nb)) (Rn m o m.length)) rfl rfl rfl rfl rfl (by repeat (first | exact Ad | refine Aa (Ab _) ?_)) ?_
      repeat' (first | refine rl1 ?_ | refine rs1 (fun h => ?_) (fun h => ?_) | fail)
      exact finR (.inr rfl) rfl rfl (ret_agg (Vm ret_d (Vm ret_d Ajj)))
end Go.Proofs.YtiledamgmppcmaaGreatDoor
namespace Go.Proofs.YtiledamgmppcmaaGreatDoor
open Go.RowKit
set_option maxRecDepth 100000 in
set_option maxHeartbeats 1000000 in
theorem bld_used (b : Nat) (w : World) (h0 : w.cell? ⟨b, 0, none⟩ = some (.pointer (some ⟨b, 0, none⟩))) :
    Calls Tryz.prog 192 #[.pointer (some ⟨b, 0, none⟩)] w fun e w' => e = .returned (.tuple #[]) /\ w' = w := by
  obtain ⟨j, hj, _⟩ : ∃ j, Tryz.prog.info? 212 = some j /\ j.size = 2 := Option.map_eq_some_iff.1 (by kernel_rfl)
  go_enter Tryz.func192, Tryz.ntmps192
  go_wp2
  rw [Lib.run_neq_ptr_same w _ Tryz.underlying210 hj]
  go_wp2
  go_end0
  exact ⟨rfl, rfl⟩
set_option maxRecDepth 100000 in
set_option maxHeartbeats 1000000 in
theorem Al0 (b : Nat) (w : World) (h0 : w.cell? ⟨b, 0, none⟩ = some (.pointer none)) (hsh : w.shape? b = some (212, 2)) (hfz : w.frozen? ⟨b, 0, none⟩ = false) :
    Calls Tryz.prog 192 #[.pointer (some ⟨b, 0, none⟩)] w fun e w' => e = .returned (.tuple #[]) /\ w' = w.setCell ⟨b, 0, none⟩ (.pointer (some ⟨b, 0, none⟩)) := by
  obtain ⟨j, hj, hjs⟩ : ∃ j, Tryz.prog.info? 212 = some j /\ j.size = 2 := Option.map_eq_some_iff.1 (by kernel_rfl)
  go_enter Tryz.func192, Tryz.ntmps192
  go_wp2
  rw [Lib.run_to_unsafe w ⟨b, 0, none⟩ Tryz.underlying210 Tryz.underlying264 hj (by rw [hjs]; decide) hsh (Nat.zero_lt_succ 1)]
  simp only [Result.andThen]
  rw [Oper.upon_value]
  go_wp2
  rw [run_callFunc_extern Tryz.func217 (by kernel_rfl) (by kernel_rfl) (by kernel_rfl) (e := Extern.AbiNoEscape.same) (by kernel_rfl)]
  rw [Lib.run_noEscape]
  simp only [Result.andThen]
  rw [Oper.upon_value]
  go_wp2
  rw [Lib.run_from_unsafe w ⟨b, 0, none⟩ Tryz.underlying264 Tryz.underlying210 hj hsh (by kernel_rfl)]
  simp only [Result.andThen]
  rw [Oper.upon_value]
  go_wp2
  go_end0
  exact ⟨rfl, rfl⟩
theorem Ad5 (B b : Nat) (bs : List Value) (w : World) (h : Lib.IsBuilder 212 5 B b bs w) :
    Calls Tryz.prog 192 #[.pointer (some ⟨b, 0, none⟩)] w fun e w' => e = .returned (.tuple #[]) /\ (Lib.BuilderAt 212 5 B b (.pointer (some ⟨b, 0, none⟩)) bs w' /\ Below B w w') := by
  rcases h with h | h
  . refine (Al0 b w h.cell0 h.shape h.frozen0).mono ?_
    rintro e w' ⟨rfl, rfl⟩
    exact ⟨rfl, h.used _, (Below.refl B w).setCell (p := ⟨b, 0, none⟩) h.1 _⟩
  . refine (bld_used b w h.cell0).mono ?_
    rintro e w' ⟨rfl, rfl⟩
    exact ⟨rfl, h, Below.refl B _⟩
set_option maxHeartbeats 2000000 in
set_option maxRecDepth 100000 in
theorem M5 (B b : Nat) (bs : List Value) (s : ByteArray) (w : World) (h : Lib.IsBuilder 212 5 B b bs w) (hlen : bs.length + s.size <= 140737488355328) (hBw : B <= w.heap.size) :
    Calls Tryz.prog 160 #[.pointer (some ⟨b, 0, none⟩), .string s] w fun e w' => e = .returned (.tuple #[.int .i64 s.size, .nilIface]) /\ (Lib.BuilderAt 212 5 B b (.pointer (some ⟨b, 0, none⟩)) (bs ++ Lib.strCells s) w' /\ Below B w w') := by
  obtain ⟨i0, hi, hz0, hz1, hz2⟩ := info_parts (P := Tryz.prog) (e := 5) (size := 1) (bytes := 1) (z := .int .u8 0) (by kernel_rfl)
  go_enter Tryz.func160, Tryz.ntmps160
  go_wp2_with (go_at_call 192; refine (Ad5 B b bs _ h).mono ?_)
  rintro e w1 ⟨rfl, h1, hb1⟩
  obtain ⟨hB, v, hbk, hown, hne⟩ := h1
  have c0 : w1.cell? ⟨b, 0, none⟩ = some (.pointer (some ⟨b, 0, none⟩)) := by rw [Lib.cell_of_heap hbk]; rfl
  have c1 : w1.cell? ⟨b, 1, none⟩ = some v := by rw [Lib.cell_of_heap hbk]; rfl
  go_wp2_with (at_builtin; refine Lib.wpList_append_own_string _ rfl _ _ 25 9 rfl B 5 i0 Tryz.underlying25 Tryz.underlying9 hi hz0 hz1 hz2 _ _ _ rfl hown s rfl ?c3 ?c4 ?c5 ?_)
  case c3 => unfold maxLen; omega
  case c4 => omega
  case c5 => have := hb1.size; omega
  intro v' w2 hown' hgrow _
  have hlt : b < w1.heap.size := by
    rcases Nat.lt_or_ge b w1.heap.size with h' | h'
    . exact h'
    . simp [Array.getElem?_eq_none h'] at hbk
  have hb2 : w2.heap[b]? = some (.cells #[.pointer (some ⟨b, 0, none⟩), v] 212 (0, 0)) := by
    rw [hgrow.block b hlt (fun e => hne e.symm)]
    exact hbk
  have d0 : w2.cell? ⟨b, 0, none⟩ = some (.pointer (some ⟨b, 0, none⟩)) := by rw [Lib.cell_of_heap hb2]; rfl
  have d1 : w2.cell? ⟨b, 1, none⟩ = some v := by rw [Lib.cell_of_heap hb2]; rfl
  have f1 : w2.frozen? ⟨b, 1, none⟩ = false := Lib.frozen_of_heap hb2 1
  obtain ⟨ao, n', cap, rfl⟩ : ∃ ao n' cap, v' = .slice ao n' cap := by
    rcases hown'.2 with ⟨hv, _⟩ | ⟨g, cap, cur, hv, _⟩
    . exact ⟨_, _, _, hv⟩
    . exact ⟨_, _, _, hv⟩
  go_wp2
  go_ret2
  refine ⟨rfl, ?_, ?_⟩
  . exact Lib.BuilderAt.put (T := 212) (e := 5) hB hb2 (bs' := bs ++ Lib.strCells s) (by simpa [Lib.strCells_length] using hown') (by decide)
  . exact (hb1.grown hgrow (by have := hb1.size; omega) (fun k hk => (hown.lt k hk).1)).setCell (p := ⟨b, 1, none⟩) hB _
set_option maxHeartbeats 2000000 in
set_option maxRecDepth 100000 in
theorem bld_byte (B b : Nat) (bs : List Value) (c : Int) (w : World) (h : Lib.IsBuilder 212 5 B b bs w) (hlen : bs.length + 1 <= 140737488355328) (hBw : B <= w.heap.size) :
    Calls Tryz.prog 159 #[.pointer (some ⟨b, 0, none⟩), .int .u8 c] w fun e w' => e = .returned .nilIface /\ (Lib.BuilderAt 212 5 B b (.pointer (some ⟨b, 0, none⟩)) (bs ++ [.int .u8 c]) w' /\ Below B w w') := by
  obtain ⟨i0, hi, hz0, hz1, hz2⟩ := info_parts (P := Tryz.prog) (e := 5) (size := 1) (bytes := 1) (z := .int .u8 0) (by kernel_rfl)
  go_enter Tryz.func159, Tryz.ntmps159
  go_wp2_with (go_at_call 192; refine (Ad5 B b bs _ h).mono ?_)
  rintro e w1 ⟨rfl, h1, hb1⟩
  obtain ⟨hB, v, hbk, hown, hne⟩ := h1
  have c0 : w1.cell? ⟨b, 0, none⟩ = some (.pointer (some ⟨b, 0, none⟩)) := by rw [Lib.cell_of_heap hbk]; rfl
  have c1 : w1.cell? ⟨b, 1, none⟩ = some v := by rw [Lib.cell_of_heap hbk]; rfl
  go_wp2_with (at_builtin; refine wpList_append_own _ rfl _ _ 25 rfl B 5 i0 (.int .u8 0) 1 1 Tryz.underlying25 hi hz0 hz1 hz2 rfl (by decide) _ _ _ rfl (hown.alloc _) ⟨w1.heap.size, 0, none⟩ 1 1 [.int .u8 c] rfl rfl ?c1 ?c2 ?c3 ?c4 ?c5 ?_)
  case c1 =>
    intro j u hj
    match j, hj with
    | 0, hj => simp at hj; subst hj; simp [Addr.add]
  case c2 => intro u hu; simp at hu; subst hu; rfl
  case c3 => unfold maxLen; omega
  case c4 => omega
  case c5 => have := hb1.size; simp; omega
  intro v' w2 hown' hgrow _
  have hlt : b < w1.heap.size := by
    rcases Nat.lt_or_ge b w1.heap.size with h' | h'
    . exact h'
    . simp [Array.getElem?_eq_none h'] at hbk
  have hb2 : w2.heap[b]? = some (.cells #[.pointer (some ⟨b, 0, none⟩), v] 212 (0, 0)) := by
    rw [hgrow.block b (by simp; omega) (fun e => hne e.symm), Lib.alloc_old w1 _ b hlt]
    exact hbk
  have d0 : w2.cell? ⟨b, 0, none⟩ = some (.pointer (some ⟨b, 0, none⟩)) := by rw [Lib.cell_of_heap hb2]; rfl
  have d1 : w2.cell? ⟨b, 1, none⟩ = some v := by rw [Lib.cell_of_heap hb2]; rfl
  have f1 : w2.frozen? ⟨b, 1, none⟩ = false := Lib.frozen_of_heap hb2 1
  obtain ⟨g, cap, rfl⟩ : ∃ g cap, v' = .slice (some ⟨g, 0, none⟩) (bs.length + 1) cap := by
    rcases hown'.2 with ⟨_, h0⟩ | ⟨g, cap, cur, hv, _⟩
    . omega
    . exact ⟨g, cap, hv⟩
  go_wp2
  go_ret
  refine ⟨rfl, ?_, ?_⟩
  . exact Lib.BuilderAt.put (T := 212) (e := 5) hB hb2 (bs' := bs ++ [.int .u8 c]) (by simpa using hown') (by decide)
  . exact ((hb1.alloc (by have := hb1.size; omega) _).grown hgrow (by have := hb1.size; simp; omega) (fun k hk => (hown.lt k hk).1)).setCell (p := ⟨b, 1, none⟩) hB _
end Go.Proofs.YtiledamgmppcmaaGreatDoor
namespace Go.Proofs.YtiledamgmppcmaaGreatDoor
open Go.RowKit
attribute [local go_sem] Oper.semAt_some
def Ud : List Int -> List UInt8
  | [] => []
  | [x] => Lib.itoa x
  | x :: y :: r => Ud (y :: r) ++ ((List.replicate 9 48).drop (Lib.itoa x).length ++ Lib.itoa x)
def Ada (neg : Bool) (l : List Int) : List UInt8 := if l = [] then [48] else (if neg then [45] else []) ++ Ud l
theorem Am8 : ∀ (k u : Nat), u < 10 ^ (k + 1) -> Lib.nDigits u <= k + 1
  | 0, u, h => by rw [Lib.nDigits_small (by omega)]; exact Nat.le_refl _
  | k + 1, u, h => by
    rw [Lib.nDigits]
    split
    . omega
    . have := Am8 k (u / 10) (by rw [Nat.pow_succ] at h; omega)
      omega
theorem Xt {x : Int} (h : Dw x) : (Lib.itoa x).length <= 9 := by
  obtain ⟨n, rfl⟩ := Int.eq_ofNat_of_zero_le h.1
  rw [show ((n : Nat) : Int) = Int.ofNat n from rfl] at *
  rw [show Int.ofNat n = (n : Int) from rfl, Lib.itoa_nonneg, Lib.decDigits_length]
  have h2 := h.2
  exact Am8 8 n (by rw [show Int.ofNat n = (n : Int) from rfl] at h2; omega)
theorem Vw : ∀ {l : List Int}, (∀ x ∈ l, Dw x) -> (Ud l).length <= 9 * l.length
  | [], _ => by simp [Ud]
  | [x], h => by have := Xt (h x List.mem_cons_self); simpa [Ud] using this
  | x :: y :: r, h => by
    have h1 := Vw (l := y :: r) fun z hz => h z (List.mem_cons_of_mem _ hz)
    have h2 := Xt (h x List.mem_cons_self)
    simp only [Ud, List.length_append, List.length_drop, List.length_replicate, List.length_cons] at h1 |-
    omega
theorem lims_of {G : Nat -> Nat -> Prop} {w : World} {sl : Value} {l : List Int} (h : Ef G w (.sl 1 (l.map Z7)) sl) : ∃ p cap, sl = .slice p l.length cap /\ l.length <= cap /\ cap <= 9223372036854775807 /\
    ∀ (j : Nat), j < l.length -> ∃ b o, p = some ⟨b, o, none⟩ /\ w.cell? ⟨b, o + j, none⟩ = some (.int .u32 (l.getD j 0)) := by
  simp only [Ef] at h
  obtain ⟨p, cap, rfl, h1, h2, h3⟩ := h
  simp only [List.length_map] at h1 h3
  refine ⟨p, cap, by simp, h1, h2, fun j hlt => ?_⟩
  obtain ⟨b, o, rfl, h4, h5⟩ := h3 (by intro e; simp at e; subst e; simp at hlt)
  have h6 := R0 (j := j) (e := Z7 l[j]) h5 (by simp [hlt])
  simp only [Bn] at h6
  obtain ⟨⟨u0, c0, r0⟩, _⟩ := h6
  simp only [Ef] at r0
  rw [r0.1, Nat.mul_one] at c0
  refine ⟨b, o, rfl, ?_⟩
  rw [c0, List.getD_eq_getElem?_getD, List.getElem?_eq_getElem hlt]; rfl
theorem Ad4 {T e : TypeId} {B b : Nat} {bs : List Value} {w w' : World} (h : Lib.IsBuilder T e B b bs w) (hb : Below w.heap.size w w') : Lib.IsBuilder T e B b bs w' := by
  have key : ∀ p, Lib.BuilderAt T e B b p bs w -> Lib.BuilderAt T e B b p bs w' := by
    rintro p ⟨h1, v, h2, h3, h4⟩
    refine ⟨h1, v, (hb.block _ (Array.getElem?_eq_some_iff.1 h2).1).trans h2, h3.kept (row := none) ⟨hb.os, hb.tape, hb.output, hb.size, fun k hk _ => hb.block k hk⟩ ?_, h4⟩
    cases hv : v.ownBlock with
    | none => exact .inl rfl
    | some k => exact .inr (by simp)
  rcases h with h | h
  . exact .inl (key _ h)
  . exact .inr (key _ h)
theorem Af2 {x : Int} {r : List Int} (h : r ≠ []) : Ud (x :: r) = Ud r ++ ((List.replicate 9 48).drop (Lib.itoa x).length ++ Lib.itoa x) := by
  cases r with
  | nil => exact absurd rfl h
  | cons y r => rfl
theorem zext (n : Nat) (h : n <= 9) : (ByteArray.extract ⟨#[48, 48, 48, 48, 48, 48, 48, 48, 48]⟩ n 9).data.toList = (List.replicate 9 48).drop n := by
  have key : ∀ n : Fin 10, (ByteArray.extract ⟨#[48, 48, 48, 48, 48, 48, 48, 48, 48]⟩ n.val 9).data.toList = (List.replicate 9 48).drop n.val := by decide +kernel
  exact key ⟨n, by omega⟩
theorem zsize (n : Nat) : ByteArray.size (ByteArray.extract ⟨#[48, 48, 48, 48, 48, 48, 48, 48, 48]⟩ n 9) <= 9 := by
  rw [ByteArray.size_extract]; simp [ByteArray.size]
set_option maxRecDepth 100000 in
set_option maxHeartbeats 4000000 in
theorem text_any (neg : Bool) (l : List Int) (K : Kx) (w : World) (hf : Inv K ⟨[], []⟩ w) (hl : l.length <= 1000000) (hok : ∀ x ∈ l, Dw x) (p : Option Addr) (cap : Nat) (hcap : l.length <= cap) (hmax : cap <= 9223372036854775807)
    (hel : ∀ (j : Nat), j < l.length -> ∃ b o, p = some ⟨b, o, none⟩ /\ w.cell? ⟨b, o + j, none⟩ = some (.int .u32 (l.getD j 0))) :
    Calls Tryz.prog 124 #[.agg #[.bool neg, .slice p l.length cap]] w fun e w' => e = .returned (.string ⟨(Ada neg l).toArray⟩) /\ Below w.heap.size w w' := by
  go_enter Tryz.func124, Tryz.ntmps124
  by_cases h0 : l.length = 0
  . go_wp2
    go_ret
    have hl0 : l = [] := List.length_eq_zero_iff.1 h0
    subst hl0
    exact ⟨rfl, (Below.refl _ _).alloc (Nat.le_refl _) _⟩
  . have h0' : ¬ ((l.length : Int) = 0) := by omega
    have h0b : ((l.length : Int) == 0) = false := by simpa using h0'
    have hw1 : IntKind.i64.wrap ((l.length : Int) - 1) = (l.length : Int) - 1 := by rw [IntKind.wrap_i64]; omega
    have hne : l ≠ [] := fun e => h0 (by rw [e]; rfl)
    have HF := Lib.hid hf
    have HOK := Lib.hid hok
    have HEL := Lib.hid hel
    clear hf hok hel
    obtain ⟨W1, hW1⟩ : ∃ W1, w.alloc (.cells #[.bool neg, .slice p l.length cap] 136) = W1 := ⟨_, rfl⟩
    have hs1 : W1.heap.size = w.heap.size + 1 := by rw [<- hW1]; simp
    have hb1 : Below w.heap.size w W1 := by rw [<- hW1]; exact (Below.refl _ _).alloc (Nat.le_refl _) _
    have hcl1 : ∀ j u, [Value.bool neg, .slice p l.length cap][j]? = some u -> W1.cell? ((⟨w.heap.size, 0, none⟩ : Addr).add j) = some u := by rw [<- hW1]; exact Ur _ _ _
    have c0 : W1.cell? ⟨w.heap.size, 0, none⟩ = some (.bool neg) := by simpa [Addr.add] using hcl1 0 _ rfl
    have c1 : W1.cell? ⟨w.heap.size, 1, none⟩ = some (.slice p l.length cap) := by simpa [Addr.add] using hcl1 1 _ rfl
    clear hcl1
    have HW1 := Lib.hid hb1
    have hfr : Lib.IsBuilder 212 5 (w.heap.size + 1) (w.heap.size + 1) (Lib.byteCells []) (W1.alloc (.cells #[.pointer none, .slice none 0 0] 212)) := by
      have := Lib.fresh_isBuilder 212 5 W1
      rw [hs1] at this; exact this
    have hb2 : Below (w.heap.size + 1) W1 (W1.alloc (.cells #[.pointer none, .slice none 0 0] 212)) := by
      have := (Below.refl W1.heap.size W1).alloc (Nat.le_refl _) (.cells #[.pointer none, .slice none 0 0] 212)
      rw [hs1] at this; exact this
    obtain ⟨W2, hW2⟩ : ∃ W2, W1.alloc (.cells #[.pointer none, .slice none 0 0] 212) = W2 := ⟨_, rfl⟩
    have hs2 : W2.heap.size = w.heap.size + 2 := by rw [<- hW2]; simp [hs1]
    rw [hW2] at hfr hb2
    have HFR := Lib.hid hfr
    have HB2 := Lib.hid hb2
    have d0 := (C6 (i := 0) (hb2.block w.heap.size (by omega))).trans c0
    have d1 := (C6 (i := 1) (hb2.block w.heap.size (by omega))).trans c1
    clear hfr hb2 hb1
    have HTAB : Hid (∀ wr, Below w.heap.size w wr -> Lib.TabIs Tryz.prog wr "internal/strconv.uint64pow10" .u64 Lib.pow10Tab) := Lib.hid fun wr hb => tab_of (by kernel_rfl) (HF.out.below hb).1.fz
    obtain ⟨neg0, hneg⟩ : ∃ neg0, neg = neg0 := ⟨_, rfl⟩
    rw [show Ada neg l = Ada neg0 l from by rw [hneg]]
    have HNEG := Lib.hid hneg
    clear hneg
    cases neg with
    | true =>
      go_wp2_with fail
      refine (bld_byte (w.heap.size + 1) (w.heap.size + 1) [] 45 _ HFR.out (by simp) (by rw [hs2]; omega)).mono ?_
      rintro e W3 ⟨rfl, h3, hb3⟩
      have hfr : Lib.IsBuilder 212 5 (w.heap.size + 1) (w.heap.size + 1) (Lib.byteCells [45]) W3 := .inr h3
      have hb4 := HB2.out.trans (hb3.mono (Nat.le_refl _))
      have d2 := (C6 (i := 1) (hb4.block w.heap.size (by omega))).trans c1
      have hs3 : w.heap.size + 2 <= W3.heap.size := h3.lt
      clear HFR HB2 d0 d1
      have HFR := Lib.hid hfr
      have HB2 := Lib.hid hb4
      clear hfr hb4 h3 hb3
      go_wp2_with fail
      go_loopw [4] (fun i wr => ∃ j : Nat, j <= l.length /\ i = .int .i64 ((j : Int) - 1) /\ Lib.IsBuilder 212 5 (w.heap.size + 1) (w.heap.size + 1) (Lib.byteCells ([45] ++ Ud (l.drop j))) wr /\ Below (w.heap.size + 1) W1 wr) (fun i _ => (intOf i + 1).toNat)
      case atStart => exact ⟨l.length, Nat.le_refl _, rfl, by rw [List.drop_length, Ud, List.append_nil]; exact HFR.out, HB2.out⟩
      case round =>
        obtain ⟨j, hj, rfl, hbl, hbr⟩ := hrel
        have HBL := Lib.hid hbl
        have HBR := Lib.hid hbr
        have e1 := (C6 (i := 1) (hbr.block w.heap.size (by omega))).trans c1
        have hsr : w.heap.size + 2 <= wr.heap.size := by
          rcases hbl with h | h <;> exact h.lt
        have htab : Lib.TabIs Tryz.prog wr "internal/strconv.uint64pow10" .u64 Lib.pow10Tab := HTAB.out wr ((HW1.out).trans (hbr.mono (Nat.le_succ _)))
        have HT := Lib.hid htab
        clear hbl hbr htab
        by_cases hlt : 0 < j
        . obtain ⟨j, rfl⟩ : ∃ i, j = i + 1 := ⟨j - 1, by omega⟩
          have hj1 : ((j + 1 : Nat) : Int) - 1 = (j : Int) := by omega
          rw [hj1]
          obtain ⟨b, o, rfl, c2⟩ := HEL.out j (by omega)
          have hbw := Kg c2
          have e2 := (C6 (i := o + j) (HBR.out.block b (by omega))).trans ((C6 (i := o + j) (HW1.out.block b hbw)).trans c2)
          have hx : Dw (l.getD j 0) := U6 HOK.out (by omega)
          have HX := Lib.hid (Xt hx)
          have HD := Lib.hid (List.drop_eq_getElem_cons (show j < l.length by omega))
          have HG : Hid (l[j]'(by omega) = l.getD j 0) := Lib.hid (by rw [List.getD_eq_getElem?_getD, List.getElem?_eq_getElem (by omega)]; rfl)
          obtain ⟨x, hxx⟩ : ∃ x, l.getD j 0 = x := ⟨_, rfl⟩
          rw [hxx] at e2 hx HX HG
          have hz := Kg e2
          have hw2 : IntKind.i64.wrap ((j : Int) - 1) = (j : Int) - 1 := by rw [IntKind.wrap_i64]; omega
          have hwx : IntKind.i64.wrap x = x := by rw [IntKind.wrap_i64]; have := hx.1; have := hx.2; omega
          clear c2
          go_wp2_with fail
          refine (Tryz.strconv_Itoa x (by have := hx.1; omega) (by have := hx.2; omega) wr HT.out).mono ?_
          rintro e w5 ⟨rfl, k5, os5, hw5⟩
          have hb5 : Below wr.heap.size wr w5 := by rw [hw5]; exact ⟨rfl, rfl, rfl, by show wr.heap.size <= (wr.heap ++ os5).size; rw [Array.size_append]; omega, fun q hq => by show (wr.heap ++ os5)[q]? = _; rw [Array.getElem?_append_left hq]⟩
          obtain ⟨ds, hds⟩ : ∃ ds, Lib.itoa x = ds := ⟨_, rfl⟩
          rw [hds] at HX |-
          obtain ⟨S, hS⟩ : ∃ S, (⟨ds.toArray⟩ : ByteArray) = S := ⟨_, rfl⟩
          have hSs : S.size = ds.length := by rw [<- hS]; simp [ByteArray.size]
          have hSc : S.data.toList = ds := by rw [<- hS]
          have HBL5 := Lib.hid (Ad4 HBL.out hb5)
          have HBR5 := Lib.hid (HBR.out.trans (hb5.mono (by omega)))
          have hs5 : w.heap.size + 2 <= w5.heap.size := Nat.le_trans hsr hb5.size
          have f1 := (C6 (i := 1) (HBR5.out.block w.heap.size (by omega))).trans c1
          have HSC := Lib.hid hSc
          have HDS := Lib.hid hds
          rw [hS]
          have hX9 := HX.out
          rw [<- hSs] at hX9
          clear e2 e1 hw5 hb5 HBL HBR HT hS hSc hds
          by_cases hl2 : j + 1 < l.length
          . have hl3 : (j : Int) < (l.length : Int) - 1 := by omega
            have HE : Hid (Lib.byteCells ([45] ++ Ud (l.drop (j + 1))) ++ Lib.strCells (ByteArray.extract ⟨#[48, 48, 48, 48, 48, 48, 48, 48, 48]⟩ ds.length 9) ++ Lib.strCells S = Lib.byteCells ([45] ++ Ud (l.drop j))) := Lib.hid (by
              rw [HD.out, HG.out, Af2 (by intro e; have := congrArg List.length e; simp at this; omega), Lib.strCells_eq, Lib.strCells_eq, HSC.out, zext _ (by rw [<- hSs]; exact hX9), HDS.out, <- Lib.byteCells_append, <- Lib.byteCells_append]
              simp only [List.append_assoc])
            have HL : Hid ((Lib.byteCells ([45] ++ Ud (l.drop (j + 1)))).length <= 9000001) := Lib.hid (by
              have := Vw (l := l.drop (j + 1)) fun z hz => HOK.out z (List.mem_of_mem_drop hz)
              rw [List.length_drop] at this
              simp [Lib.byteCells_length]; omega)
            have HZ : Hid (ByteArray.size (ByteArray.extract ⟨#[48, 48, 48, 48, 48, 48, 48, 48, 48]⟩ ds.length 9) <= 9) := Lib.hid (zsize _)
            go_wp2_with fail
            refine (M5 (w.heap.size + 1) (w.heap.size + 1) _ _ w5 HBL5.out (by have := HL.out; have := HZ.out; omega) (by omega)).mono ?_
            rintro e w6 ⟨rfl, h6, hb6⟩
            have hs6 : w.heap.size + 2 <= w6.heap.size := h6.lt
            have H6 := Lib.hid h6
            have HBR6 := Lib.hid (HBR5.out.trans hb6)
            clear h6 hb6
            go_wp2_with fail
            refine (M5 (w.heap.size + 1) (w.heap.size + 1) _ S w6 (.inr H6.out) (by have := HL.out; have := HZ.out; rw [List.length_append, Lib.strCells_length]; omega) (by omega)).mono ?_
            rintro e w7 ⟨rfl, h7, hb7⟩
            have H7 := Lib.hid h7
            have HBR7 := Lib.hid (HBR6.out.trans hb7)
            clear h7 hb7
            go_wp2
            go_round
            case rel =>
              exact ⟨j, by omega, by go_num, by rw [<- HE.out]; exact .inr H7.out, HBR7.out⟩
            case measure => simp [intOf]
          . have hl3 : ¬ (j : Int) < (l.length : Int) - 1 := by omega
            have HE : Hid (Lib.byteCells ([45] ++ Ud (l.drop (j + 1))) ++ Lib.strCells S = Lib.byteCells ([45] ++ Ud (l.drop j))) := Lib.hid (by
              rw [HD.out, HG.out, List.drop_of_length_le (show l.length <= j + 1 by omega), Lib.strCells_eq, HSC.out, <- Lib.byteCells_append, Ud, Ud, HDS.out]
              simp only [List.append_nil])
            have HL : Hid ((Lib.byteCells ([45] ++ Ud (l.drop (j + 1)))).length <= 9000001) := Lib.hid (by
              have := Vw (l := l.drop (j + 1)) fun z hz => HOK.out z (List.mem_of_mem_drop hz)
              rw [List.length_drop] at this
              simp [Lib.byteCells_length]; omega)
            go_wp2_with fail
            refine (M5 (w.heap.size + 1) (w.heap.size + 1) _ S w5 HBL5.out (by have := HL.out; omega) (by omega)).mono ?_
            rintro e w7 ⟨rfl, h7, hb7⟩
            have H7 := Lib.hid h7
            have HBR7 := Lib.hid (HBR5.out.trans hb7)
            clear h7 hb7
            go_wp2
            go_round
            case rel => exact ⟨j, by omega, by go_num, by rw [<- HE.out]; exact .inr H7.out, HBR7.out⟩
            case measure => simp [intOf]
        . obtain rfl : j = 0 := by omega
          go_wp2_with fail
          refine (Tryz.Builder_String_any (w.heap.size + 1) (w.heap.size + 1) _ wr HBL.out (by omega)).mono ?_
          rintro e w7 ⟨rfl, hb7⟩
          have HB7 := Lib.hid hb7
          clear hb7
          go_wp2
          go_ret
          refine ⟨?_, HW1.out.trans ((HBR.out.trans HB7.out).mono (Nat.le_succ _))⟩
          have e : Ada neg0 l = [45] ++ Ud (l.drop 0) := by rw [<- HNEG.out]; unfold Ada; rw [if_neg hne]; rfl
          rw [e]
          rfl
    | false =>
      go_wp2_with fail
      go_loopw [4] (fun i wr => ∃ j : Nat, j <= l.length /\ i = .int .i64 ((j : Int) - 1) /\ Lib.IsBuilder 212 5 (w.heap.size + 1) (w.heap.size + 1) (Lib.byteCells ([] ++ Ud (l.drop j))) wr /\ Below (w.heap.size + 1) W1 wr) (fun i _ => (intOf i + 1).toNat)
      case atStart => exact ⟨l.length, Nat.le_refl _, rfl, by rw [List.drop_length, Ud, List.append_nil]; exact HFR.out, HB2.out⟩
      case round =>
        obtain ⟨j, hj, rfl, hbl, hbr⟩ := hrel
        have HBL := Lib.hid hbl
        have HBR := Lib.hid hbr
        have e1 := (C6 (i := 1) (hbr.block w.heap.size (by omega))).trans c1
        have hsr : w.heap.size + 2 <= wr.heap.size := by
          rcases hbl with h | h <;> exact h.lt
        have htab : Lib.TabIs Tryz.prog wr "internal/strconv.uint64pow10" .u64 Lib.pow10Tab := HTAB.out wr ((HW1.out).trans (hbr.mono (Nat.le_succ _)))
        have HT := Lib.hid htab
        clear hbl hbr htab
        by_cases hlt : 0 < j
        . obtain ⟨j, rfl⟩ : ∃ i, j = i + 1 := ⟨j - 1, by omega⟩
          have hj1 : ((j + 1 : Nat) : Int) - 1 = (j : Int) := by omega
          rw [hj1]
          obtain ⟨b, o, rfl, c2⟩ := HEL.out j (by omega)
          have hbw := Kg c2
          have e2 := (C6 (i := o + j) (HBR.out.block b (by omega))).trans ((C6 (i := o + j) (HW1.out.block b hbw)).trans c2)
          have hx : Dw (l.getD j 0) := U6 HOK.out (by omega)
          have HX := Lib.hid (Xt hx)
          have HD := Lib.hid (List.drop_eq_getElem_cons (show j < l.length by omega))
          have HG : Hid (l[j]'(by omega) = l.getD j 0) := Lib.hid (by rw [List.getD_eq_getElem?_getD, List.getElem?_eq_getElem (by omega)]; rfl)
          obtain ⟨x, hxx⟩ : ∃ x, l.getD j 0 = x := ⟨_, rfl⟩
          rw [hxx] at e2 hx HX HG
          have hz := Kg e2
          have hw2 : IntKind.i64.wrap ((j : Int) - 1) = (j : Int) - 1 := by rw [IntKind.wrap_i64]; omega
          have hwx : IntKind.i64.wrap x = x := by rw [IntKind.wrap_i64]; have := hx.1; have := hx.2; omega
          clear c2
          go_wp2_with fail
          refine (Tryz.strconv_Itoa x (by have := hx.1; omega) (by have := hx.2; omega) wr HT.out).mono ?_
          rintro e w5 ⟨rfl, k5, os5, hw5⟩
          have hb5 : Below wr.heap.size wr w5 := by rw [hw5]; exact ⟨rfl, rfl, rfl, by show wr.heap.size <= (wr.heap ++ os5).size; rw [Array.size_append]; omega, fun q hq => by show (wr.heap ++ os5)[q]? = _; rw [Array.getElem?_append_left hq]⟩
          obtain ⟨ds, hds⟩ : ∃ ds, Lib.itoa x = ds := ⟨_, rfl⟩
          rw [hds] at HX |-
          obtain ⟨S, hS⟩ : ∃ S, (⟨ds.toArray⟩ : ByteArray) = S := ⟨_, rfl⟩
          have hSs : S.size = ds.length := by rw [<- hS]; simp [ByteArray.size]
          have hSc : S.data.toList = ds := by rw [<- hS]
          have HBL5 := Lib.hid (Ad4 HBL.out hb5)
          have HBR5 := Lib.hid (HBR.out.trans (hb5.mono (by omega)))
          have hs5 : w.heap.size + 2 <= w5.heap.size := Nat.le_trans hsr hb5.size
          have f1 := (C6 (i := 1) (HBR5.out.block w.heap.size (by omega))).trans c1
          have HSC := Lib.hid hSc
          have HDS := Lib.hid hds
          rw [hS]
          have hX9 := HX.out
          rw [<- hSs] at hX9
          clear e2 e1 hw5 hb5 HBL HBR HT hS hSc hds
          by_cases hl2 : j + 1 < l.length
          . have hl3 : (j : Int) < (l.length : Int) - 1 := by omega
            have HE : Hid (Lib.byteCells ([] ++ Ud (l.drop (j + 1))) ++ Lib.strCells (ByteArray.extract ⟨#[48, 48, 48, 48, 48, 48, 48, 48, 48]⟩ ds.length 9) ++ Lib.strCells S = Lib.byteCells ([] ++ Ud (l.drop j))) := Lib.hid (by
              rw [HD.out, HG.out, Af2 (by intro e; have := congrArg List.length e; simp at this; omega), Lib.strCells_eq, Lib.strCells_eq, HSC.out, zext _ (by rw [<- hSs]; exact hX9), HDS.out, <- Lib.byteCells_append, <- Lib.byteCells_append]
              simp only [List.append_assoc])
            have HL : Hid ((Lib.byteCells ([] ++ Ud (l.drop (j + 1)))).length <= 9000001) := Lib.hid (by
              have := Vw (l := l.drop (j + 1)) fun z hz => HOK.out z (List.mem_of_mem_drop hz)
              rw [List.length_drop] at this
              simp [Lib.byteCells_length]; omega)
            have HZ : Hid (ByteArray.size (ByteArray.extract ⟨#[48, 48, 48, 48, 48, 48, 48, 48, 48]⟩ ds.length 9) <= 9) := Lib.hid (zsize _)
            go_wp2_with fail
            refine (M5 (w.heap.size + 1) (w.heap.size + 1) _ _ w5 HBL5.out (by have := HL.out; have := HZ.out; omega) (by omega)).mono ?_
            rintro e w6 ⟨rfl, h6, hb6⟩
            have hs6 : w.heap.size + 2 <= w6.heap.size := h6.lt
            have H6 := Lib.hid h6
            have HBR6 := Lib.hid (HBR5.out.trans hb6)
            clear h6 hb6
            go_wp2_with fail
            refine (M5 (w.heap.size + 1) (w.heap.size + 1) _ S w6 (.inr H6.out) (by have := HL.out; have := HZ.out; rw [List.length_append, Lib.strCells_length]; omega) (by omega)).mono ?_
            rintro e w7 ⟨rfl, h7, hb7⟩
            have H7 := Lib.hid h7
            have HBR7 := Lib.hid (HBR6.out.trans hb7)
            clear h7 hb7
            go_wp2
            go_round
            case rel =>
              exact ⟨j, by omega, by go_num, by rw [<- HE.out]; exact .inr H7.out, HBR7.out⟩
            case measure => simp [intOf]
          . have hl3 : ¬ (j : Int) < (l.length : Int) - 1 := by omega
            have HE : Hid (Lib.byteCells ([] ++ Ud (l.drop (j + 1))) ++ Lib.strCells S = Lib.byteCells ([] ++ Ud (l.drop j))) := Lib.hid (by
              rw [HD.out, HG.out, List.drop_of_length_le (show l.length <= j + 1 by omega), Lib.strCells_eq, HSC.out, <- Lib.byteCells_append, Ud, Ud, HDS.out]
              simp only [List.append_nil])
            have HL : Hid ((Lib.byteCells ([] ++ Ud (l.drop (j + 1)))).length <= 9000001) := Lib.hid (by
              have := Vw (l := l.drop (j + 1)) fun z hz => HOK.out z (List.mem_of_mem_drop hz)
              rw [List.length_drop] at this
              simp [Lib.byteCells_length]; omega)
            go_wp2_with fail
            refine (M5 (w.heap.size + 1) (w.heap.size + 1) _ S w5 HBL5.out (by have := HL.out; omega) (by omega)).mono ?_
            rintro e w7 ⟨rfl, h7, hb7⟩
            have H7 := Lib.hid h7
            have HBR7 := Lib.hid (HBR5.out.trans hb7)
            clear h7 hb7
            go_wp2
            go_round
            case rel => exact ⟨j, by omega, by go_num, by rw [<- HE.out]; exact .inr H7.out, HBR7.out⟩
            case measure => simp [intOf]
        . obtain rfl : j = 0 := by omega
          go_wp2_with fail
          refine (Tryz.Builder_String_any (w.heap.size + 1) (w.heap.size + 1) _ wr HBL.out (by omega)).mono ?_
          rintro e w7 ⟨rfl, hb7⟩
          have HB7 := Lib.hid hb7
          clear hb7
          go_wp2
          go_ret
          refine ⟨?_, HW1.out.trans ((HBR.out.trans HB7.out).mono (Nat.le_succ _))⟩
          have e : Ada neg0 l = [] ++ Ud (l.drop 0) := by rw [<- HNEG.out]; unfold Ada; rw [if_neg hne]; rfl
          rw [e]
          rfl
theorem wtext_do (neg : Bool) (l : List Int) (hl : l.length <= 1000000) (hok : ∀ x ∈ l, Dw x) : An 124 [whP neg l] ⟨[], []⟩ (.ret (By ⟨(Ada neg l).toArray⟩)) ⟨[], []⟩ := by
  refine ⟨enters_of Tryz.func124 rfl rfl, fun K w vs hI hA => ?_⟩
  simp only [Bm, Rep] at hA
  obtain ⟨u, us, rfl, ⟨cs, rfl, u0, us0, rfl, r0, u1, us1, rfl, r1, rfl⟩, rfl⟩ := hA
  simp only [Ef] at r0
  obtain ⟨rfl, _⟩ := r0
  obtain ⟨p, cap, rfl, hcap, hmax, hel⟩ := lims_of r1
  refine (text_any neg l K w hI hl hok p cap hcap hmax hel).mono ?_
  rintro e w' ⟨rfl, hb⟩
  obtain ⟨h1, h2⟩ := hI.below hb
  exact ⟨K, h2, h1, _, rfl, by simp only [Rep, Ef]; exact ⟨trivial, rfl⟩⟩
end Go.Proofs.YtiledamgmppcmaaGreatDoor
namespace Go.Proofs.YtiledamgmppcmaaGreatDoor
open Go.RowKit
def rdL : List (List DV) -> Option (List Int)
  | [] => some []
  | [.v (.int .u32 x)] :: r => match rdL r with
    | some l => some (x :: l)
    | none => none
  | _ :: _ => none
def rdP : PV -> Option (List Int)
  | .d (.sl 1 l) => rdL l
  | .d (.v (.slice none 0 0)) => some []
  | _ => none
theorem rdL_ok : ∀ {r : List (List DV)} {l : List Int}, rdL r = some l -> r = l.map Z7
  | [], l, h => by cases h; rfl
  | e :: r, l, h => by
    unfold rdL at h
    split at h
    . rename_i he; cases he
    . rename_i x r' he
      cases he
      split at h
      . rename_i l' hl
        cases h
        rw [rdL_ok hl]; rfl
      . cases h
    . cases h
theorem Afo {p : PV} {l : List Int} (h : rdP p = some l) (S : PS) : Coe S p (O2 l) := by
  unfold rdP at h
  split at h
  . rw [rdL_ok h]; exact Ab _
  . cases h; exact Bo
  . cases h
theorem Uz {f : Nat} {args args' : List PV} {S S' : PS} {out : POut} (h : An f args' S out S') (hc : F6 S args args') : An f args S out S' :=
  ⟨h.1, fun K w vs hI hA => h.2 K w vs hI (F6.rep hI hc hA)⟩
def okB (l : List Int) : Bool := Nat.ble l.length 1000000 && l.all fun x => decide (0 <= x) && decide (x < 1000000000)
theorem Aaz {l : List Int} (h : okB l = true) : l.length <= 1000000 /\ ∀ x ∈ l, Dw x := by
  simp only [okB, Bool.and_eq_true] at h
  refine ⟨Nat.le_of_ble_eq_true h.1, fun x hx => ?_⟩
  have := List.all_eq_true.1 h.2 x hx
  simp only [Bool.and_eq_true, decide_eq_true_eq] at this
  exact this
def orcE : Nat -> List PV -> PS -> Option (POut × PS) := fun f args S => match S with
  | ⟨[], []⟩ => match args with
    | [.agg [.d (.v (.bool na)), m], .agg [.d (.v (.bool nb)), o]] => bif Nat.beq f 135 then
        match rdP m, rdP o with
        | some m, some o => bif okB m && okB o then some (.ret (whP (!decide (na = nb) && !decide (N4 (mulL m o) = [])) (N4 (mulL m o))), ⟨[], []⟩) else none
        | _, _ => none
      else none
    | [.agg [.d (.v (.bool na)), m]] => bif Nat.beq f 124 then
        match rdP m with
        | some m => bif okB m then some (.ret (By ⟨(Ada na m).toArray⟩), ⟨[], []⟩) else none
        | none => none
      else none
    | [m, .d (.v (.int .u32 b))] => bif Nat.beq f 227 then
        match rdP m with
        | some m => bif okB m && okB [b] && decide (0 < b) then some (.ret (.tup [O2 (qL b m).1, .d (.v (.int .u32 (qL b m).2))]), ⟨[], []⟩) else none
        | none => none
      else none
    | [m] => bif Nat.beq f 205 then
        match rdP m with
        | some m => bif okB m && Nat.ble m.length 2 then some (.ret (.d (.v (.int .u64 (Abf m)))), ⟨[], []⟩) else none
        | none => none
      else none
    | _ => none
  | _ => none
theorem Ahe : Z2 orcE := by
  intro f args S out S' h
  unfold orcE at h
  split at h
  . split at h
    . rename_i na m nb o
      cases hb : Nat.beq f 135 <;> simp only [hb, cond_true, cond_false] at h
      . cases h
      . obtain rfl := Nat.eq_of_beq_eq_true hb
        split at h
        . rename_i m' o' h1 h2
          cases hk : (okB m' && okB o') <;> simp only [hk, cond_true, cond_false] at h
          . cases h
          . cases h
            simp only [Bool.and_eq_true] at hk
            obtain ⟨k1, k2⟩ := Aaz hk.1
            obtain ⟨k3, k4⟩ := Aaz hk.2
            exact Uz (mul_do na nb m' o' k2 k4 k1 k3) (Aa (A9 (Aa (Ab _) (Aa (Afo h1 _) Ad))) (Aa (A9 (Aa (Ab _) (Aa (Afo h2 _) Ad))) Ad))
        . cases h
    . rename_i na m
      cases hb : Nat.beq f 124 <;> simp only [hb, cond_true, cond_false] at h
      . cases h
      . obtain rfl := Nat.eq_of_beq_eq_true hb
        split at h
        . rename_i m' h1
          cases hk : okB m' <;> simp only [hk, cond_true, cond_false] at h
          . cases h
          . cases h
            obtain ⟨k1, k2⟩ := Aaz hk
            exact Uz (wtext_do na m' k1 k2) (Aa (A9 (Aa (Ab _) (Aa (Afo h1 _) Ad))) Ad)
        . cases h
    . rename_i m b
      cases hb : Nat.beq f 227 <;> simp only [hb, cond_true, cond_false] at h
      . cases h
      . obtain rfl := Nat.eq_of_beq_eq_true hb
        split at h
        . rename_i m' h1
          cases hk : (okB m' && okB [b] && decide (0 < b)) <;> simp only [hk, cond_true, cond_false] at h
          . cases h
          . cases h
            simp only [Bool.and_eq_true, decide_eq_true_eq] at hk
            obtain ⟨k1, k2⟩ := Aaz hk.1.1
            obtain ⟨_, k4⟩ := Aaz hk.1.2
            exact Uz (short_do m' b k1 k2 (k4 b (by simp)) hk.2) (Aa (Afo h1 _) (Aa (Ab _) Ad))
        . cases h
    . rename_i m _
      cases hb : Nat.beq f 205 <;> simp only [hb, cond_true, cond_false] at h
      . cases h
      . obtain rfl := Nat.eq_of_beq_eq_true hb
        split at h
        . rename_i m' h1
          cases hk : (okB m' && Nat.ble m'.length 2) <;> simp only [hk, cond_true, cond_false] at h
          . cases h
          . cases h
            simp only [Bool.and_eq_true] at hk
            obtain ⟨k1, k2⟩ := Aaz hk.1
            exact Uz (value_do m' (Nat.le_of_ble_eq_true hk.2) k2) (Aa (Afo h1 _) Ad)
        . cases h
    . cases h
  . cases h
noncomputable def runV (vars : List ByteArray) (vals : List Int) (x : Ex) : Option (POut × PS) := Agt Tryz.prog orcE (fun _ => false) 1000 76 [.agg [D8 vars, Fj vals], exP x] ⟨[], []⟩
end Go.Proofs.YtiledamgmppcmaaGreatDoor
namespace Go.Proofs.YtiledamgmppcmaaGreatDoor
open Go.RowKit
def Wf (vars : List ByteArray) (vals : List Int) (i : Nat) : Bool := !Tz (vars.take i) (vars.getD i ⟨#[]⟩) && decide (-9999 <= vals.getD i 0) && decide (vals.getD i 0 <= 9999)
def Ts (vars : List ByteArray) (vals : List Int) : Bool := (List.range vars.length).all (Wf vars vals)
theorem Akp {p : Nat -> Bool} {n : Nat} (h : (List.range n).all p = true) (hn : p n = true) : (List.range (n + 1)).all p = true := by
  rw [List.range_succ, List.all_append, h]; simp [hn]
theorem Wd {p : Nat -> Bool} {n i : Nat} (hi : i < n) (h : p i = false) : (List.range n).all p = false := by
  rw [List.all_eq_false]; exact ⟨i, List.mem_range.2 hi, by rw [h]; simp⟩
theorem strE_get {l : List ByteArray} {i : Nat} (h : i < l.length) : (l.map Xj)[((i : Nat) : Int).toNat]? = some (Xj (l.getD i ⟨#[]⟩)) := by
  rw [Int.toNat_natCast, List.getElem?_map, List.getD_eq_getElem?_getD, List.getElem?_eq_getElem h]; rfl
theorem Aiy {l : List Int} {i : Nat} (h : i < l.length) : (l.map fun n => [DV.v (.int .i64 n)])[((i : Nat) : Int).toNat]? = some [DV.v (.int .i64 (l.getD i 0))] := by
  rw [Int.toNat_natCast, List.getElem?_map, List.getD_eq_getElem?_getD, List.getElem?_eq_getElem h]; rfl
theorem coe_eq {S : PS} {p q : PV} (h : p = q) : Coe S p q := h ▸ Ab _
@[reducible] def Ao8 (vars : List ByteArray) (vals : List Int) : PV := .agg [D8 vars, Fj vals]
theorem Sl (vars : List ByteArray) (vals : List Int) (hl : vars.length = vals.length) : An 74 [Ao8 vars vals] ⟨[], []⟩ (.ret (A7 (Ts vars vals))) ⟨[], []⟩ := by
  refine G5 Tryz.func74 rfl rfl (Nat.le_of_ble_eq_true rfl) rfl (Nat.le_refl _) ?_
  intro hf
  have hlen : vars.length <= 9223372036854775807 := by have := hf.1.1; simpa [Amo] using this
  repeat' (first | refine rl0 ?_ | refine rs0 (fun h => ?_) (fun h => ?_) | fail)
  refine Bt (ι := Nat) (ok := fun i => i <= vars.length /\ (List.range i).all (Wf vars vals) = true) (L := fun i => [(1, .ptr 0 0), (6, D8 vars), (7, Ai (vars.map Xj).length), (8, Ai i)]) (Sx := fun _ => ⟨[[D8 vars, Fj vals]], []⟩) (μ := fun i => vars.length - i) 0 ⟨Nat.zero_le _, rfl⟩ (by repeat (first | exact Ag | refine Ac rfl ?_)) rfl ?_
  rintro i ⟨hi, hm⟩
  repeat' (first | refine rl0 ?_ | refine rs0 (fun h => ?_) (fun h => ?_) | fail)
  . have hlt : i < vars.length := by simpa using h
    refine wix _ rfl rfl rfl rfl rfl (strE_get hlt) (by omega) ?_
    repeat' (first | refine rl0 ?_ | refine rs0 (fun h => ?_) (fun h => ?_) | fail)
    refine wst rfl rfl ⟨by omega, by omega, by simp; omega⟩ ?_
    repeat' (first | refine rl0 ?_ | refine rs0 (fun h => ?_) (fun h => ?_) | fail)
    have e : ((vars.map Xj).take ((i : Int)).toNat).drop (0 : Int).toNat = (vars.take i).map Xj := by simp [List.map_take]
    refine D3 (Tv (vars.take i) (vars.getD i ⟨#[]⟩)) rfl rfl rfl rfl rfl (Aa (coe_eq (congrArg (fun z => PV.d (DV.sl 1 z)) e)) (by repeat (first | exact Ad | refine Aa (Ab _) ?_))) ?_
    repeat' (first | refine rl0 ?_ | refine rs0 (fun h => ?_) (fun h => ?_) | fail)
    . rw [show Ts vars vals = false from Wd hlt (by unfold Wf; rw [h]; rfl)]
    have hm2 := h
    refine wix _ rfl rfl rfl rfl rfl (Aiy (l := vals) (by omega)) (by omega) ?_
    repeat' (first | refine rl0 ?_ | refine rs0 (fun h => ?_) (fun h => ?_) | fail)
    . rw [show Ts vars vals = false from Wd hlt (by unfold Wf; rw [show decide (-9999 <= vals.getD i 0) = false by simp at h |-; omega]; simp)]
    have hm3 := h
    refine wix _ rfl rfl rfl rfl rfl (Aiy (l := vals) (by omega)) (by omega) ?_
    repeat' (first | refine rl0 ?_ | refine rs0 (fun h => ?_) (fun h => ?_) | fail)
    . rw [show Ts vars vals = false from Wd hlt (by unfold Wf; rw [show decide (vals.getD i 0 <= 9999) = false by simp at h |-; omega]; simp)]
    . refine ⟨i + 1, ⟨by omega, Akp hm ?_⟩, by omega, (by repeat (first | exact Ag | refine Ac rfl ?_)), rfl⟩
      unfold Wf
      rw [hm2]
      simp at hm3 h |-
      omega
  . obtain rfl : i = vars.length := by simp at h; omega
    rw [show Ts vars vals = true from hm]
def divV : Value := .iface 131 (.agg #[])
theorem Agf (w : World) : (Instr.typeAssert .nilIface 20 131 true).run Tryz.prog w = .ok (.tuple #[.agg #[], .bool false]) w := by kernel_rfl
theorem Age (w : World) : (Instr.typeAssert divV 20 131 true).run Tryz.prog w = .ok (.tuple #[.agg #[], .bool true]) w := by kernel_rfl
@[reducible] def vlP (t : Int) (s : ByteArray) (y : Bool) : PV := .agg [Ai t, By s, A7 y]
@[reducible] def resC (na : Bool) (n : List Int) (nb : Bool) (d : List Int) (y : Bool) : List PV := [A7 na, O2 n, A7 nb, O2 d, A7 y]
@[reducible] def evS (x : Ex) (vc : List PV) (er : PV) (vars : List ByteArray) (vals : List Int) : PS := ⟨[(exP x).parts, vc, [er], [D8 vars, Fj vals]], []⟩
@[reducible] def evS1 (x : Ex) (vc : List PV) (er : PV) (vars : List ByteArray) (vals : List Int) (r : List PV) : PS := ⟨[(exP x).parts, vc, [er], [D8 vars, Fj vals], r], []⟩
theorem Aeg (x : Ex) (c0 c1 c2 er : DV) (vars : List ByteArray) (vals : List Int) (na nb y : Bool) (n d : List Int) : EvD Tryz.prog 75 [.ptr 1 0, .ptr 2 0] (evS1 x [.d c0, .d c1, .d c2] (.d er) vars vals (resC na n nb d y)) none (evS1 x [.d c0, .d c1, .d c2] (.d er) vars vals (resC na n nb d y)) := by
  refine Xs Tryz.func75 rfl rfl (fun _ _ => rfl) rfl (Nat.le_of_ble_eq_true rfl) (by simp) rfl (Nat.le_refl _) ?_
  refine Kb rfl (Ve rfl rfl Agf (by kernel_rfl)) ?_
  repeat' (first | refine rl0 ?_ | refine rs0 (fun h => ?_) (fun h => ?_) | fail)
  rfl
theorem edef_div (x : Ex) (c0 c1 c2 er : DV) (vars : List ByteArray) (vals : List Int) : EvD Tryz.prog 75 [.ptr 1 0, .ptr 2 0] (evS x [.d c0, .d c1, .d c2] (.d er) vars vals) (some divV) (evS x [Ai 0, By ⟨#[]⟩, A7 false] (Ai 2) vars vals) := by
  refine Xs Tryz.func75 rfl rfl (fun _ _ => rfl) rfl (Nat.le_of_ble_eq_true rfl) (fun c e => by cases e; rfl) rfl (Nat.le_refl _) ?_
  refine Kb rfl (Ve rfl rfl Age (by kernel_rfl)) ?_
  repeat' (first | refine rl0 ?_ | refine rs0 (fun h => ?_) (fun h => ?_) | fail)
  rfl
theorem Yh (x : Ex) (vars : List ByteArray) (vals : List Int) (hs : x.small) (hc : Bg x = 0) (h0 : vars.length ≠ vals.length \/ Ts vars vals = false) : An 33 [exP x, D8 vars, Fj vals] ⟨[], []⟩ (.ret (.tup [vlP 0 ⟨#[]⟩ false, Ai 2])) ⟨[], []⟩ := by
  have hchk := F7 x hs
  rw [hc] at hchk
  refine ⟨enters_of Tryz.func33 rfl rfl, Dm H5 Tryz.func33 rfl (Nat.le_of_ble_eq_true rfl) rfl (Nat.le_refl _) ?_⟩
  refine Av (Bv ?_)
  repeat' (first | refine rl0 ?_ | refine rs0 (fun h => ?_) (fun h => ?_) | fail)
  refine Av (Bv ?_)
  repeat' (first | refine rl0 ?_ | refine rs0 (fun h => ?_) (fun h => ?_) | fail)
  refine D3 hchk rfl rfl rfl rfl rfl (by repeat (first | exact Ad | refine Aa (Ab _) ?_)) ?_
  repeat' (first | refine rl0 ?_ | refine rs0 (fun h => ?_) (fun h => ?_) | fail)
  refine Av (Bv ?_)
  repeat' (first | refine rl0 ?_ | refine rs0 (fun h => ?_) (fun h => ?_) | fail)
  refine Av (Bv ?_)
  repeat' (first | refine rl0 ?_ | refine rs0 (fun h => ?_) (fun h => ?_) | fail)
  . exact ⟨none, .inl ⟨rfl, .inr rfl⟩, _, rfl, rfl, rfl, .inr rfl, _, B6 rfl, rfl, rfl⟩
  have hl : vars.length = vals.length := by simp at h; omega
  rcases h0 with h0 | h0
  . exact absurd hl h0
  have hr := Sl vars vals hl
  rw [h0] at hr
  refine D3 hr rfl rfl rfl rfl rfl (by repeat (first | exact Ad | refine Aa (Ab _) ?_)) ?_
  repeat' (first | refine rl0 ?_ | refine rs0 (fun h => ?_) (fun h => ?_) | fail)
  exact ⟨none, .inl ⟨rfl, .inr rfl⟩, _, rfl, rfl, rfl, .inr rfl, _, B6 rfl, rfl, rfl⟩
theorem Abx {x : Ex} (h : Bg x = 0) : x.fits = true := Adk x 60 1 ((Cr x).1 h)
theorem Aeh (x : Ex) (vars : List ByteArray) (vals : List Int) (hs : x.small) (hc : Bg x = 0) (hl : vars.length = vals.length) (h0 : Ts vars vals = true) (hk : Kr vars x = 0) : An 33 [exP x, D8 vars, Fj vals] ⟨[], []⟩ (.ret (.tup [vlP 0 ⟨#[]⟩ false, Ai 351])) ⟨[], []⟩ := by
  have hchk := F7 x hs
  have ht := Vx vars _ x (Nat.le_refl _) (Abx hc)
  rw [hk] at ht
  rw [hc] at hchk
  refine ⟨enters_of Tryz.func33 rfl rfl, Dm H5 Tryz.func33 rfl (Nat.le_of_ble_eq_true rfl) rfl (Nat.le_refl _) ?_⟩
  refine Av (Bv ?_)
  repeat' (first | refine rl0 ?_ | refine rs0 (fun h => ?_) (fun h => ?_) | fail)
  refine Av (Bv ?_)
  repeat' (first | refine rl0 ?_ | refine rs0 (fun h => ?_) (fun h => ?_) | fail)
  refine D3 hchk rfl rfl rfl rfl rfl (by repeat (first | exact Ad | refine Aa (Ab _) ?_)) ?_
  repeat' (first | refine rl0 ?_ | refine rs0 (fun h => ?_) (fun h => ?_) | fail)
  refine Av (Bv ?_)
  repeat' (first | refine rl0 ?_ | refine rs0 (fun h => ?_) (fun h => ?_) | fail)
  refine Av (Bv ?_)
  repeat' (first | refine rl0 ?_ | refine rs0 (fun h => ?_) (fun h => ?_) | fail)
  . exfalso; simp at h; omega
  have hr := Sl vars vals hl
  rw [h0] at hr
  refine D3 hr rfl rfl rfl rfl rfl (by repeat (first | exact Ad | refine Aa (Ab _) ?_)) ?_
  repeat' (first | refine rl0 ?_ | refine rs0 (fun h => ?_) (fun h => ?_) | fail)
  refine Av (Bv ?_)
  repeat' (first | refine rl0 ?_ | refine rs0 (fun h => ?_) (fun h => ?_) | fail)
  refine D3 ht rfl rfl rfl rfl rfl (by repeat (first | exact Ad | refine Aa (Ab _) ?_)) ?_
  repeat' (first | refine rl0 ?_ | refine rs0 (fun h => ?_) (fun h => ?_) | fail)
  refine Av (Bv ?_)
  repeat' (first | refine rl0 ?_ | refine rs0 (fun h => ?_) (fun h => ?_) | fail)
  . exact ⟨none, .inl ⟨rfl, .inr rfl⟩, _, rfl, rfl, rfl, .inr rfl, _, B6 rfl, rfl, rfl⟩
theorem Aj7 (x : Ex) (vars : List ByteArray) (vals : List Int) (hs : x.small) (hc : Bg x = 0) (hl : vars.length = vals.length) (h0 : Ts vars vals = true) (hk : Kr vars x = 2) (na : Bool) (n : List Int) (nb : Bool) (d : List Int) (y : Bool)
    (he : An 76 [Ao8 vars vals, exP x] ⟨[], []⟩ (.ret (.agg (resC na n nb d y))) ⟨[], []⟩) : An 33 [exP x, D8 vars, Fj vals] ⟨[], []⟩ (.ret (.tup [vlP 2 ⟨#[]⟩ y, Ai 0])) ⟨[], []⟩ := by
  have hchk := F7 x hs
  have ht := Vx vars _ x (Nat.le_refl _) (Abx hc)
  rw [hk] at ht
  rw [hc] at hchk
  refine ⟨enters_of Tryz.func33 rfl rfl, Dm H5 Tryz.func33 rfl (Nat.le_of_ble_eq_true rfl) rfl (Nat.le_refl _) ?_⟩
  refine Av (Bv ?_)
  repeat' (first | refine rl0 ?_ | refine rs0 (fun h => ?_) (fun h => ?_) | fail)
  refine Av (Bv ?_)
  repeat' (first | refine rl0 ?_ | refine rs0 (fun h => ?_) (fun h => ?_) | fail)
  refine D3 hchk rfl rfl rfl rfl rfl (by repeat (first | exact Ad | refine Aa (Ab _) ?_)) ?_
  repeat' (first | refine rl0 ?_ | refine rs0 (fun h => ?_) (fun h => ?_) | fail)
  refine Av (Bv ?_)
  repeat' (first | refine rl0 ?_ | refine rs0 (fun h => ?_) (fun h => ?_) | fail)
  refine Av (Bv ?_)
  repeat' (first | refine rl0 ?_ | refine rs0 (fun h => ?_) (fun h => ?_) | fail)
  . exfalso; simp at h; omega
  have hr := Sl vars vals hl
  rw [h0] at hr
  refine D3 hr rfl rfl rfl rfl rfl (by repeat (first | exact Ad | refine Aa (Ab _) ?_)) ?_
  repeat' (first | refine rl0 ?_ | refine rs0 (fun h => ?_) (fun h => ?_) | fail)
  refine Av (Bv ?_)
  repeat' (first | refine rl0 ?_ | refine rs0 (fun h => ?_) (fun h => ?_) | fail)
  refine D3 ht rfl rfl rfl rfl rfl (by repeat (first | exact Ad | refine Aa (Ab _) ?_)) ?_
  repeat' (first | refine rl0 ?_ | refine rs0 (fun h => ?_) (fun h => ?_) | fail)
  refine Av (Bv ?_)
  repeat' (first | refine rl0 ?_ | refine rs0 (fun h => ?_) (fun h => ?_) | fail)
  refine Av (L7 rfl rfl rfl rfl rfl rfl (by decide) ?_)
  refine Av (Bv ?_)
  repeat' (first | refine rl0 ?_ | refine rs0 (fun h => ?_) (fun h => ?_) | fail)
  refine D3 he rfl rfl rfl rfl rfl (by repeat (first | exact Ad | refine Aa (Ab _) ?_)) ?_
  repeat' (first | refine rl0 ?_ | refine rs0 (fun h => ?_) (fun h => ?_) | fail)
  refine Av (Bv ?_)
  repeat' (first | refine rl0 ?_ | refine rs0 (fun h => ?_) (fun h => ?_) | fail)
  exact ⟨none, .inl ⟨rfl, .inr rfl⟩, ⟨_, Tryz.func75, rfl, rfl⟩, _, Aeg _ _ _ _ (.v (.int .i64 0)) _ _ _ _ _ _ _, _, rfl, rfl, rfl, .inr rfl, _, B6 rfl, rfl, rfl⟩
theorem Ain (x : Ex) (vars : List ByteArray) (vals : List Int) (hs : x.small) (hc : Bg x = 0) (hl : vars.length = vals.length) (h0 : Ts vars vals = true) (hk : Kr vars x = 1) (na : Bool) (n : List Int) (nb : Bool) (d : List Int) (y : Bool) (s : ByteArray)
    (he : An 76 [Ao8 vars vals, exP x] ⟨[], []⟩ (.ret (.agg (resC na n nb d y))) ⟨[], []⟩) (htx : An 77 [.agg [A7 na, O2 n, A7 nb, O2 d]] ⟨[], []⟩ (.ret (By s)) ⟨[], []⟩) : An 33 [exP x, D8 vars, Fj vals] ⟨[], []⟩ (.ret (.tup [vlP 1 s false, Ai 0])) ⟨[], []⟩ := by
  have hchk := F7 x hs
  have ht := Vx vars _ x (Nat.le_refl _) (Abx hc)
  rw [hk] at ht
  rw [hc] at hchk
  refine ⟨enters_of Tryz.func33 rfl rfl, Dm H5 Tryz.func33 rfl (Nat.le_of_ble_eq_true rfl) rfl (Nat.le_refl _) ?_⟩
  refine Av (Bv ?_)
  repeat' (first | refine rl0 ?_ | refine rs0 (fun h => ?_) (fun h => ?_) | fail)
  refine Av (Bv ?_)
  repeat' (first | refine rl0 ?_ | refine rs0 (fun h => ?_) (fun h => ?_) | fail)
  refine D3 hchk rfl rfl rfl rfl rfl (by repeat (first | exact Ad | refine Aa (Ab _) ?_)) ?_
  repeat' (first | refine rl0 ?_ | refine rs0 (fun h => ?_) (fun h => ?_) | fail)
  refine Av (Bv ?_)
  repeat' (first | refine rl0 ?_ | refine rs0 (fun h => ?_) (fun h => ?_) | fail)
  refine Av (Bv ?_)
  repeat' (first | refine rl0 ?_ | refine rs0 (fun h => ?_) (fun h => ?_) | fail)
  . exfalso; simp at h; omega
  have hr := Sl vars vals hl
  rw [h0] at hr
  refine D3 hr rfl rfl rfl rfl rfl (by repeat (first | exact Ad | refine Aa (Ab _) ?_)) ?_
  repeat' (first | refine rl0 ?_ | refine rs0 (fun h => ?_) (fun h => ?_) | fail)
  refine Av (Bv ?_)
  repeat' (first | refine rl0 ?_ | refine rs0 (fun h => ?_) (fun h => ?_) | fail)
  refine D3 ht rfl rfl rfl rfl rfl (by repeat (first | exact Ad | refine Aa (Ab _) ?_)) ?_
  repeat' (first | refine rl0 ?_ | refine rs0 (fun h => ?_) (fun h => ?_) | fail)
  refine Av (Bv ?_)
  repeat' (first | refine rl0 ?_ | refine rs0 (fun h => ?_) (fun h => ?_) | fail)
  refine Av (L7 rfl rfl rfl rfl rfl rfl (by decide) ?_)
  refine Av (Bv ?_)
  repeat' (first | refine rl0 ?_ | refine rs0 (fun h => ?_) (fun h => ?_) | fail)
  refine D3 he rfl rfl rfl rfl rfl (by repeat (first | exact Ad | refine Aa (Ab _) ?_)) ?_
  repeat' (first | refine rl0 ?_ | refine rs0 (fun h => ?_) (fun h => ?_) | fail)
  refine Av (Bv ?_)
  repeat' (first | refine rl0 ?_ | refine rs0 (fun h => ?_) (fun h => ?_) | fail)
  refine Av (Bv ?_)
  repeat' (first | refine rl0 ?_ | refine rs0 (fun h => ?_) (fun h => ?_) | fail)
  refine D3 htx rfl rfl rfl rfl rfl (by repeat (first | exact Ad | refine Aa (Ab _) ?_)) ?_
  repeat' (first | refine rl0 ?_ | refine rs0 (fun h => ?_) (fun h => ?_) | fail)
  refine Bv ?_
  repeat' (first | refine rl0 ?_ | refine rs0 (fun h => ?_) (fun h => ?_) | fail)
  exact ⟨none, .inl ⟨rfl, .inr rfl⟩, ⟨_, Tryz.func75, rfl, rfl⟩, _, Aeg _ _ _ _ (.v (.int .i64 0)) _ _ _ _ _ _ _, _, rfl, rfl, rfl, .inr rfl, _, B6 rfl, rfl, rfl⟩
theorem eval_div (x : Ex) (vars : List ByteArray) (vals : List Int) (hs : x.small) (hc : Bg x = 0) (hl : vars.length = vals.length) (h0 : Ts vars vals = true) (hk : Kr vars x ≠ 0)
    (he : An 76 [Ao8 vars vals, exP x] ⟨[], []⟩ (.panic divV) ⟨[], []⟩) : An 33 [exP x, D8 vars, Fj vals] ⟨[], []⟩ (.ret (.tup [vlP 0 ⟨#[]⟩ false, Ai 2])) ⟨[], []⟩ := by
  have hchk := F7 x hs
  have ht := Vx vars _ x (Nat.le_refl _) (Abx hc)
  rw [hc] at hchk
  refine ⟨enters_of Tryz.func33 rfl rfl, Dm H5 Tryz.func33 rfl (Nat.le_of_ble_eq_true rfl) rfl (Nat.le_refl _) ?_⟩
  refine Av (Bv ?_)
  repeat' (first | refine rl0 ?_ | refine rs0 (fun h => ?_) (fun h => ?_) | fail)
  refine Av (Bv ?_)
  repeat' (first | refine rl0 ?_ | refine rs0 (fun h => ?_) (fun h => ?_) | fail)
  refine D3 hchk rfl rfl rfl rfl rfl (by repeat (first | exact Ad | refine Aa (Ab _) ?_)) ?_
  repeat' (first | refine rl0 ?_ | refine rs0 (fun h => ?_) (fun h => ?_) | fail)
  refine Av (Bv ?_)
  repeat' (first | refine rl0 ?_ | refine rs0 (fun h => ?_) (fun h => ?_) | fail)
  refine Av (Bv ?_)
  repeat' (first | refine rl0 ?_ | refine rs0 (fun h => ?_) (fun h => ?_) | fail)
  . exfalso; simp at h; omega
  have hr := Sl vars vals hl
  rw [h0] at hr
  refine D3 hr rfl rfl rfl rfl rfl (by repeat (first | exact Ad | refine Aa (Ab _) ?_)) ?_
  repeat' (first | refine rl0 ?_ | refine rs0 (fun h => ?_) (fun h => ?_) | fail)
  refine Av (Bv ?_)
  repeat' (first | refine rl0 ?_ | refine rs0 (fun h => ?_) (fun h => ?_) | fail)
  refine D3 ht rfl rfl rfl rfl rfl (by repeat (first | exact Ad | refine Aa (Ab _) ?_)) ?_
  repeat' (first | refine rl0 ?_ | refine rs0 (fun h => ?_) (fun h => ?_) | fail)
  refine Av (Bv ?_)
  repeat' (first | refine rl0 ?_ | refine rs0 (fun h => ?_) (fun h => ?_) | fail)
  . exfalso; simp at h; omega
  refine Av (L7 rfl rfl rfl rfl rfl rfl (by decide) ?_)
  refine Av (Bv ?_)
  refine Aa3 ?_
  repeat' (first | refine rl0 ?_ | refine rs0 (fun h => ?_) (fun h => ?_) | fail)
  refine Gu rfl (Ajd rfl he.1 rfl rfl (Q9 _) he.2) ?_
  exact ⟨some divV, .inr ⟨_, rfl, rfl⟩, ⟨_, Tryz.func75, rfl, rfl⟩, _, edef_div x (.v (.int .i64 0)) (.v (.string ⟨#[]⟩)) (.v (.bool false)) (.v (.int .i64 0)) _ _, _, rfl, rfl, rfl, .inr rfl, _, B6 rfl, rfl, rfl⟩
end Go.Proofs.YtiledamgmppcmaaGreatDoor
namespace Go.Proofs.YtiledamgmppcmaaGreatDoor
open Go.RowKit
theorem Acx {vars : List ByteArray} {vals : List Int} {x : Ex} {out : POut} (h : runV vars vals x = some (out, ⟨[], []⟩)) : An 76 [Ao8 vars vals, exP x] ⟨[], []⟩ out ⟨[], []⟩ := Og Ahe h
theorem rv1 : runV [⟨#[120]⟩] [3] (nd 10 [eX, e2]) = some (.ret (.agg (resC false [3] false [2] false)), ⟨[], []⟩) := by kernel_rfl
theorem rv2 : runV [⟨#[120]⟩] [0] (nd 10 [e1, eX]) = some (.panic divV, ⟨[], []⟩) := by kernel_rfl
theorem rv3 : runV [⟨#[120]⟩] [0] (nd 18 [nd 11 [eX, e0], nd 15 [nd 10 [e1, eX], e0]]) = some (.ret (.agg [A7 false, .d (.v (.slice none 0 0)), A7 false, .d (.v (.slice none 0 0)), A7 true]), ⟨[], []⟩) := by kernel_rfl
theorem tx1 : Agt Tryz.prog orcE (fun _ => false) 1000 77 [.agg [A7 false, O2 [3], A7 false, O2 [2]]] ⟨[], []⟩ = some (.ret (By ⟨#[51, 47, 50]⟩), ⟨[], []⟩) := by kernel_rfl
theorem ev1 : An 33 [exP (nd 10 [eX, e2]), D8 [⟨#[120]⟩], Fj [3]] ⟨[], []⟩ (.ret (.tup [vlP 1 ⟨#[51, 47, 50]⟩ false, Ai 0])) ⟨[], []⟩ :=
  Ain _ _ _ (Dy (by decide +kernel)) (by decide +kernel) (by decide +kernel) (by decide +kernel) (by decide +kernel) _ _ _ _ _ _ (Acx rv1) (Og Ahe tx1)
theorem ev2 : An 33 [exP (nd 10 [e1, eX]), D8 [⟨#[120]⟩], Fj [0]] ⟨[], []⟩ (.ret (.tup [vlP 0 ⟨#[]⟩ false, Ai 2])) ⟨[], []⟩ :=
  eval_div _ _ _ (Dy (by decide +kernel)) (by decide +kernel) (by decide +kernel) (by decide +kernel) (by decide +kernel) (Acx rv2)
theorem ev3 : An 33 [exP (nd 18 [nd 11 [eX, e0], nd 15 [nd 10 [e1, eX], e0]]), D8 [⟨#[120]⟩], Fj [0]] ⟨[], []⟩ (.ret (.tup [vlP 2 ⟨#[]⟩ true, Ai 0])) ⟨[], []⟩ :=
  Aj7 _ _ _ (Dy (by decide +kernel)) (by decide +kernel) (by decide +kernel) (by decide +kernel) (by decide +kernel) false [] false [] true
    (A4 (Acx rv3) (A9 (Aa (Ab _) (Aa Bo (Aa (Ab _) (Aa Bo (Aa (Ab _) Ad)))))))
theorem ev4 : An 33 [exP e1, D8 [⟨#[120]⟩, ⟨#[120]⟩], Fj [1, 1]] ⟨[], []⟩ (.ret (.tup [vlP 0 ⟨#[]⟩ false, Ai 2])) ⟨[], []⟩ :=
  Yh _ _ _ (Dy (by decide +kernel)) (by decide +kernel) (.inr (by decide +kernel))
end Go.Proofs.YtiledamgmppcmaaGreatDoor
namespace Go.Proofs.YtiledamgmppcmaaGreatDoor
open Go.RowKit
theorem Ah6 {x : Ex} {s : ByteArray} (hs : Vp x = true) (h : Vv x = (s, 0)) : An 16 [exP x] ⟨[], []⟩ (.ret (.tup [By s, Ai 0])) ⟨[], []⟩ := by
  have := Vh x (Dy hs)
  rwa [h] at this
theorem Ao3 {x : Ex} {vars : List ByteArray} {a b : Int} (hs : Vp x = true) (h : Si vars x = (a, b)) : An 22 [exP x, D8 vars] ⟨[], []⟩ (.ret (.tup [Ai a, Ai b])) ⟨[], []⟩ := by
  have := Adh vars x (Dy hs)
  rwa [h] at this
theorem nm_of {x : Ex} {l : List ByteArray} {b : Int} (hs : Vp x = true) (h : Nn x = (l, b)) : An 14 [exP x] ⟨[], []⟩ (.ret (.tup [D8 l, Ai b])) ⟨[], []⟩ := by
  have := Ai5 x (Dy hs)
  rwa [h] at this
def wx1 : Ex := nd 9 [nd 7 [e1, e2], eX]
def wx2 : Ex := nd 8 [e1, nd 8 [e2, e3]]
def wx3 : Ex := nd 6 [nd 6 [eT]]
def wx4 : Ex := nd 7 [nd 19 [eT, e1, e2], e3]
def wx5 : Ex := nd 7 [e1, nd 19 [eT, e2, e3]]
def wx6 : Ex := nd 17 [nd 13 [e1, e2], eT]
def wx7 : Ex := nd 5 [nd 7 [e1, e2]]
def ws1 : ByteArray := ⟨#[40, 32, 49, 32, 43, 32, 50, 32, 41, 32, 42, 32, 120]⟩
def ws2 : ByteArray := ⟨#[49, 32, 45, 32, 40, 32, 50, 32, 45, 32, 51, 32, 41]⟩
def ws3 : ByteArray := ⟨#[110, 111, 116, 32, 110, 111, 116, 32, 116, 114, 117, 101]⟩
def ws4 : ByteArray := ⟨#[40, 32, 105, 102, 32, 116, 114, 117, 101, 32, 116, 104, 101, 110, 32, 49, 32, 101, 108, 115, 101, 32, 50, 32, 41, 32, 43, 32, 51]⟩
def ws5 : ByteArray := ⟨#[49, 32, 43, 32, 40, 32, 105, 102, 32, 116, 114, 117, 101, 32, 116, 104, 101, 110, 32, 50, 32, 101, 108, 115, 101, 32, 51, 32, 41]⟩
def ws6 : ByteArray := ⟨#[49, 32, 60, 32, 50, 32, 97, 110, 100, 32, 116, 114, 117, 101]⟩
def ws7 : ByteArray := ⟨#[45, 32, 40, 32, 49, 32, 43, 32, 50, 32, 41]⟩
def factsW : List Nf := [
  (36, [By txt1, exP (nd 8 [nd 7 [e1, nd 9 [e2, eX]], e3]), Ai 7], .ret (A7 true)), (36, [By txt2, exP (nd 13 [e1, eX]), Ai 3], .ret (A7 true)), (36, [By txt4, exP (nd 7 [e1, nd 5 [e2]]), Ai 4], .ret (A7 true)),
  (36, [By txt5, exP (nd 6 [e1]), Ai 2], .ret (A7 true)), (41, [By txt3, Ai 3, Ai 350], .ret (A7 true)), (41, [By txt6, Ai 0, Ai 350], .ret (A7 true)),
  (16, [exP wx1], .ret (.tup [By ws1, Ai 0])), (16, [exP wx2], .ret (.tup [By ws2, Ai 0])), (16, [exP wx3], .ret (.tup [By ws3, Ai 0])), (16, [exP wx4], .ret (.tup [By ws4, Ai 0])),
  (16, [exP wx5], .ret (.tup [By ws5, Ai 0])), (16, [exP wx6], .ret (.tup [By ws6, Ai 0])), (16, [exP wx7], .ret (.tup [By ws7, Ai 0])),
  (22, [exP (nd 7 [eX, e1]), D8 [⟨#[120]⟩]], .ret (.tup [Ai 1, Ai 0])), (22, [exP eX, D8 []], .ret (.tup [Ai 0, Ai 351])), (22, [exP (nd 6 [e1]), D8 []], .ret (.tup [Ai 0, Ai 351])), (22, [exP (nd 19 [eT, e1, eF]), D8 []], .ret (.tup [Ai 0, Ai 351])),
  (33, [exP (nd 10 [eX, e2]), D8 [⟨#[120]⟩], Fj [3]], .ret (.tup [vlP 1 ⟨#[51, 47, 50]⟩ false, Ai 0])), (33, [exP (nd 10 [e1, eX]), D8 [⟨#[120]⟩], Fj [0]], .ret (.tup [vlP 0 ⟨#[]⟩ false, Ai 2])),
  (33, [exP (nd 18 [nd 11 [eX, e0], nd 15 [nd 10 [e1, eX], e0]]), D8 [⟨#[120]⟩], Fj [0]], .ret (.tup [vlP 2 ⟨#[]⟩ true, Ai 0])), (33, [exP e1, D8 [⟨#[120]⟩, ⟨#[120]⟩], Fj [1, 1]], .ret (.tup [vlP 0 ⟨#[]⟩ false, Ai 2])),
  (14, [exP (nd 7 [eY, nd 9 [eX, eY]])], .ret (.tup [D8 [⟨#[121]⟩, ⟨#[120]⟩], Ai 0]))]
theorem Aml : ∀ e ∈ factsW, Nf.holds e :=
  A0 reads1 (A0 reads2 (A0 reads4 (A0 reads5 (A0 fails3 (A0 fails6
  (A0 (Ah6 (by decide +kernel) (by decide +kernel)) (A0 (Ah6 (by decide +kernel) (by decide +kernel)) (A0 (Ah6 (by decide +kernel) (by decide +kernel)) (A0 (Ah6 (by decide +kernel) (by decide +kernel))
  (A0 (Ah6 (by decide +kernel) (by decide +kernel)) (A0 (Ah6 (by decide +kernel) (by decide +kernel)) (A0 (Ah6 (by decide +kernel) (by decide +kernel))
  (A0 (Ao3 (by decide +kernel) (by decide +kernel)) (A0 (Ao3 (by decide +kernel) (by decide +kernel)) (A0 (Ao3 (by decide +kernel) (by decide +kernel)) (A0 (Ao3 (by decide +kernel) (by decide +kernel))
  (A0 ev1 (A0 ev2 (A0 ev3 (A0 ev4 (A0 (nm_of (by decide +kernel) (by decide +kernel)) Yl)))))))))))))))))))))
theorem Apc : Agt Tryz.prog (orcT factsW) (fun _ => false) 1000 24 [] ⟨[], []⟩ = some (.ret (A7 true), ⟨[], []⟩) := by kernel_rfl
theorem Tj : An 24 [] ⟨[], []⟩ (.ret (A7 true)) ⟨[], []⟩ := Og (Anw Aml) Apc
end Go.Proofs.YtiledamgmppcmaaGreatDoor
