/- A part of the proofs of some statements of this chapter: texts of these claims, merged. -/
import Derived.Below
import Derived.WalkKit
import Derived.BigQuiet
import Derived.Lib.Hide
import Derived.ControlIn
import Derived.OwnWalkIn
import Derived.Lib.ItoaNum
import Derived.OrdersIn
import Derived.TacticsIn
import Derived.Deep.MidRow
import Derived.OpenShut
import Derived.Lib.SmallJoins
import Derived.Laws.Tables
import Derived.Laws.OwnMore
import Derived.Orders
import Derived.Test.YtjagmmmcibdibaaGreatDoorProg
import Derived.Shelf.Abstract
import Derived.Test.YtjagmmmcibdibaaGreatDoorRows
import Derived.Carry
import Derived.Lib.LaidU8
import Derived.Lib.LaidTab
import Derived.Lay
import Derived.MakeChecks
import Derived.Laws.Strings
import Derived.WalkSpells
import Derived.WalkLawsBesides
import Derived.Laws.EntriesVeiled
import Derived.Deep.RegionHeld3
import Derived.Deep.QuietTactic
import Derived.Lib.Bytealg
import Derived.Shelf.Strings.Builder1
import Derived.Shelf.Small.Strs
import Derived.Shelf.Small.Wraps
import Derived.Shelf.Strings.BuilderF
import Derived.Shelf.Strings.BuilderK
import Derived.Shelf.Strconv.Atoi
import Derived.Shelf.Strconv.Itoa0
import Derived.Shelf.Strconv.Itoa1
import Derived.Shelf.LaysM
import Derived.Shelf.Strconv.Itoa2
import Derived.Shelf.Strconv.Itoa3
import Derived.Shelf.Strconv.AtoiErrFast
import Derived.Shelf.Strconv.ParseIntEmpty
import Derived.Shelf.Strconv.AtoiFail
import Derived.Shelf.Strconv.Clone
import Derived.Shelf.Strconv.SyntaxError
import Derived.Shelf.LaysC
import Derived.Shelf.Strconv.ToError
import Derived.Shelf.Strconv.AtoiErr
import Derived.Shelf.Strconv.ErrVar
import Derived.Shelf.Strconv.Lower
import Derived.Shelf.Strconv.ParseUint10
import Derived.Shelf.Strconv.ParseUint10Empty
import Derived.Shelf.Strconv.ParseUint10Any
import Derived.Shelf.Strconv.ParseInt10
import Derived.Shelf.Strconv.AtoiLong
import Derived.Shelf.Strconv.AtoiInnerAll
import Derived.Shelf.Strconv.RangeError
import Derived.Shelf.Strconv.ToErrorRange
import Derived.Shelf.Strconv.AtoiAll
import Derived.Shelf.Strconv.ErrVarAll
import Derived.Shelf.Strconv.ParseUintEmpty
import Derived.Shelf.Strconv.ParseUint10b64
import Derived.Shelf.Strconv.ParseUint10b32
import Derived.Shelf.Strconv.ParseUint10b16
import Derived.Shelf.Strconv.ParseUint10b8
import Derived.Shelf.Strconv.ParseUint10At
import Derived.Ground.MpProg
import Derived.Shelf.Pu.ParseUintPublic10
import Derived.Shelf.Pu.ErrVarParseUint
import Derived.Shelf.Strings.Search1
import Derived.Shelf.Strings.Search2
import Derived.Shelf.Strings.Cut
import Derived.Shelf.Strings.Shaped
import Derived.Shelf.Strings.Prefix
import Derived.Shelf.Strings.BuilderCap
import Derived.Shelf.Slices.Turned
import Derived.Ground.Names2Prog
import Derived.Shelf.Slices.SearchI
import Derived.Deep.DeepCutAuto
import Derived.Lib.IndexBytes
import Derived.Deep.LoopGhost
import Derived.StillTail
import Derived.BigRegion
import Derived.Deep.CutBlock
import Derived.RangeFuncBox
import Derived.RangeFuncLeaves
import Derived.RangeFuncCalls
import Derived.TacticsInMore
import Derived.LoopNIn
import Derived.LoopIn
import Derived.RecoverIn
import Derived.RangeFuncNested
import Derived.Maps.AppendAt
import Derived.Shelf.RegionOpen
import Derived.Laws.StructEq
import Derived.Lib.Join
import Derived.Deep.AppendLies
import Derived.Deep.RegionLaw
import Derived.Laws.Rows
import Derived.RangeFuncOwn
import Derived.Laws.MakeOwn
import Derived.Test.YtjagmmmcibdibaaGreatDoorZF2
set_option linter.unusedVariables false
set_option linter.unusedSimpArgs false
set_option linter.unusedSectionVars false
set_option linter.all false
namespace Go.Proofs.YtjagmmmcibdibaaGreatDoor
open Go.RowKit
def Ex.val (x : Ex) (s : Value) : Value := .agg #[.int .i64 x.op, .int .i64 x.n, .string x.name, s]
def Nw (w : World) (p : Option Addr) (l : List Ex) (S : Nat -> Value) : Prop :=
  l ≠ [] -> ∃ b o, p = some ⟨b, o, none⟩ /\ ∀ (j : Nat) (x : Ex), l[j]? = some x -> w.cell? ⟨b, o + j * 4, none⟩ = some (.int .i64 x.op) /\ w.cell? ⟨b, o + j * 4 + 1, none⟩ = some (.int .i64 x.n) /\ w.cell? ⟨b, o + j * 4 + 2, none⟩ = some (.string x.name) /\ w.cell? ⟨b, o + j * 4 + 3, none⟩ = some (S j)
inductive ArgsAt (w : World) : Value -> List Ex -> Prop
  | mk (p : Option Addr) (cap : Nat) (l : List Ex) (S : Nat -> Value) (hcap : l.length <= cap) (hmax : cap <= 9223372036854775807) (hfit : Nw w p l S)
      (hname : ∀ (j : Nat) (x : Ex), l[j]? = some x -> x.name.size <= 9223372036854775807) (hargs : ∀ (j : Nat) (x : Ex), l[j]? = some x -> ArgsAt w (S j) x.args) : ArgsAt w (.slice p l.length cap) l
def Ade (w : World) (v : Value) (x : Ex) : Prop := ∃ s, v = x.val s /\ x.name.size <= 9223372036854775807 /\ ArgsAt w s x.args
theorem Nw.below {W w : World} {p : Option Addr} {l : List Ex} {S : Nat -> Value} (h : Nw W p l S) (hb : Below W.heap.size W w) : Nw w p l S := by
  intro hl
  obtain ⟨b, o, rfl, hc⟩ := h hl
  refine ⟨b, o, rfl, fun j x hx => ?_⟩
  obtain ⟨h0, h1, h2, h3⟩ := hc j x hx
  exact ⟨Az hb h0, Az hb h1, Az hb h2, Az hb h3⟩
theorem ArgsAt.mono {W w : World} {v : Value} {l : List Ex} (h : ArgsAt W v l) (hb : Below W.heap.size W w) : ArgsAt w v l := by
  induction h with
  | mk p cap l S hcap hmax hfit hname hargs ih => exact .mk p cap l S hcap hmax (hfit.below hb) hname ih
theorem Ade.mono {W w : World} {v : Value} {x : Ex} (h : Ade W v x) (hb : Below W.heap.size W w) : Ade w v x := by
  obtain ⟨s, rfl, hn, ha⟩ := h
  exact ⟨s, rfl, hn, ha.mono hb⟩
theorem ArgsAt.inv {w : World} {v : Value} {l : List Ex} (h : ArgsAt w v l) : ∃ p cap S, v = .slice p l.length cap /\ l.length <= cap /\ cap <= 9223372036854775807 /\ Nw w p l S /\ (∀ (j : Nat) (x : Ex), l[j]? = some x -> x.name.size <= 9223372036854775807) /\ ∀ (j : Nat) (x : Ex), l[j]? = some x -> ArgsAt w (S j) x.args := by
  cases h with
  | mk p cap l S hcap hmax hfit hname hargs => exact ⟨p, cap, S, rfl, hcap, hmax, hfit, hname, hargs⟩
theorem Gq {m m' : Nat} {P : Program} {l : Nat} {args : Array Value} {W : World} {R : Ending -> World -> Prop} (h : YieldAt Fence.wide m P l args W R) : YieldAt Fence.wide m' P l args W R := by
  obtain ⟨fn, tmps, assign, body, hr, h1, h2⟩ := h
  exact ⟨fn, tmps, assign, body, hr, h1, fun c cs _ => h2 c cs (room_wide _)⟩
def F8 (op : Int) : Int :=
  if op = 1 \/ op = 2 \/ op = 3 \/ op = 4 then 0 else if op = 5 \/ op = 6 then 1 else if 7 <= op /\ op <= 18 then 2 else if op = 19 then 3 else -1
def Cc (x : Ex) : Bool :=
  decide ((x.args.length : Int) = F8 x.op) && decide (0 <= x.n) && decide (x.n <= 9999) && (decide (x.n = 0) || decide (x.op = 1)) && (if x.op = 2 then decide (Du 1 x.name.data.toList 0 = 0) else decide (x.name.size = 0))
mutual
def vis (left d : Nat) : Ex -> Option Nat
  | .mk op n s l => if left = 0 \/ 12 < d \/ Cc (.mk op n s l) = false then none else Mv (left - 1) (d + 1) l
def Mv (left d : Nat) : List Ex -> Option Nat
  | [] => some left
  | x :: r => match vis left d x with
    | none => none
    | some k => Mv k d r
end
def Mu (x : Ex) : Bool := (vis 60 1 x).isSome
def Bp (x : Ex) : Int := if Mu x then 0 else 350
theorem vis_eq (left d : Nat) (x : Ex) : vis left d x = if left = 0 \/ 12 < d \/ Cc x = false then none else Mv (left - 1) (d + 1) x.args := by
  cases x; rw [vis]; rfl
end Go.Proofs.YtjagmmmcibdibaaGreatDoor
namespace Go.Proofs.YtjagmmmcibdibaaGreatDoor
open Go.RowKit
structure Opr where
  operands : Int
  want : Int
  is_ : Int
  level : Int
  sign : ByteArray
def Opr.cells (o : Opr) : List Value := [.int .i64 o.operands, .int .i64 o.want, .int .i64 o.is_, .int .i64 o.level, .string o.sign]
def Opr.val (o : Opr) : Value := .agg #[.int .i64 o.operands, .int .i64 o.want, .int .i64 o.is_, .int .i64 o.level, .string o.sign]
def Agj : List Opr := [⟨0, 0, 0, 0, ⟨#[]⟩⟩, ⟨0, 0, 1, 8, ⟨#[]⟩⟩, ⟨0, 0, 1, 8, ⟨#[]⟩⟩, ⟨0, 0, 2, 8, ⟨#[116, 114, 117, 101]⟩⟩, ⟨0, 0, 2, 8, ⟨#[102, 97, 108, 115, 101]⟩⟩, ⟨1, 1, 1, 7, ⟨#[45]⟩⟩, ⟨1, 2, 2, 3, ⟨#[110, 111, 116]⟩⟩, ⟨2, 1, 1, 5, ⟨#[43]⟩⟩, ⟨2, 1, 1, 5, ⟨#[45]⟩⟩, ⟨2, 1, 1, 6, ⟨#[42]⟩⟩, ⟨2, 1, 1, 6, ⟨#[47]⟩⟩, ⟨2, 1, 2, 4, ⟨#[61]⟩⟩, ⟨2, 1, 2, 4, ⟨#[33, 61]⟩⟩, ⟨2, 1, 2, 4, ⟨#[60]⟩⟩, ⟨2, 1, 2, 4, ⟨#[60, 61]⟩⟩, ⟨2, 1, 2, 4, ⟨#[62]⟩⟩, ⟨2, 1, 2, 4, ⟨#[62, 61]⟩⟩, ⟨2, 2, 2, 2, ⟨#[97, 110, 100]⟩⟩, ⟨2, 2, 2, 1, ⟨#[111, 114]⟩⟩, ⟨3, 0, 0, 0, ⟨#[105, 102]⟩⟩]
def opsV : Value := .agg (Agj.flatMap Opr.cells).toArray
def opAt (op : Int) : Opr := Agj.getD op.toNat ⟨0, 0, 0, 0, ⟨#[]⟩⟩
theorem Pj {P : Program} {ops : Array Oper} {rest : List Oper} {o : Oper} {a : Act} {w : World} {Q : Exit -> Act -> World -> Prop} (hg : o.guard = none) (t : TypeId) (parts : Array (Nat × Operand)) (ho : o.op = .build t parts) (cells : Array Value)
    (hf : P.built t (parts.map fun (i, x) => (i, a.eval x)).toList = some cells) (h : wpList P ops Q rest (a.put o.dst (.agg cells)) w) : wpList P ops Q (o :: rest) a w :=
  wpList_build hg t parts ho (by rw [hf]; rfl) (by rw [hf]; exact h)
theorem _root_.Go.RowKit.Below.setRow_new {B : Nat} {W w : World} (h : Below B W w) {g : Nat} (hg : B <= g) (cs : Array Value) : Below B W (w.setRow g cs) :=
  ⟨h.os, h.tape, h.output, by simpa using h.size, fun k hk => (setRow_other w g k cs (by omega)).trans (h.block k hk)⟩
set_option maxRecDepth 100000 in
set_option maxHeartbeats 4000000 in
theorem R2 (w : World) :
    Calls Tryz.prog 86 #[] w fun e w' => e = .returned opsV /\ Below w.heap.size w w' := by
  go_enter Tryz.func86, Tryz.ntmps86
  go_wp2_with (first
    | (refine Pj (o := ⟨some 20, .build 142 _, _, _, _, _⟩) rfl 142 _ rfl (Agj.flatMap Opr.cells).toArray ?_ ?_; kernel_rfl)
    | (refine wpList_store_row (o := ⟨none, .store 142 (.tmp 0) (.tmp 20), _, _, _, _⟩) rfl 142 _ _ rfl w.heap.size (Agj.flatMap Opr.cells).toArray rfl rfl 142 Tryz.zeroCells142 (heap_alloc_new _ _) (by kernel_rfl) (by kernel_rfl) (by kernel_rfl) ?_))
  refine bodyPost_ret (v := opsV) (results_cell_row Tryz.results86 _ _ w.heap.size 142 (Agj.flatMap Opr.cells).toArray (0, 0) _ rfl (setRow_heap _ _ _ _ _ _ (heap_alloc_new w _)) Tryz.underlying142 rfl (by kernel_rfl)) rfl ⟨rfl, ?_⟩
  exact ((Below.refl _ _).alloc (Nat.le_refl _) _).setRow_new (Nat.le_refl _) _
theorem known_no (op : Int) (w : World) (h : op < 1 \/ 19 < op) :
    Calls Tryz.prog 55 #[.int .i64 op] w fun e w' => e = .returned (.tuple #[(⟨0, 0, 0, 0, ⟨#[]⟩⟩ : Opr).val, .bool false]) /\ Below w.heap.size w w' := by
  have hb : Below w.heap.size w (w.alloc (.cells #[.int .i64 0, .int .i64 0, .int .i64 0, .int .i64 0, .string ⟨#[]⟩] 108)) := (Below.refl _ _).alloc (Nat.le_refl _) _
  have HB := Lib.hid hb
  clear hb
  rcases h with h | h
  . go_enter Tryz.func55, Tryz.ntmps55
    go_wp2
    exact bodyPost_ret (v := .tuple #[(⟨0, 0, 0, 0, ⟨#[]⟩⟩ : Opr).val, .bool false]) (by simp [results, Tryz.results55, go_sem, Opr.val]) rfl ⟨rfl, HB.out⟩
  . have h1 : ¬ op < 1 := by omega
    go_enter Tryz.func55, Tryz.ntmps55
    go_wp2
    exact bodyPost_ret (v := .tuple #[(⟨0, 0, 0, 0, ⟨#[]⟩⟩ : Opr).val, .bool false]) (by simp [results, Tryz.results55, go_sem, Opr.val]) rfl ⟨rfl, HB.out⟩
set_option maxRecDepth 100000 in
set_option maxHeartbeats 4000000 in
theorem Afd (op : Int) (w : World) (h1 : 1 <= op) (h2 : op <= 19) :
    Calls Tryz.prog 55 #[.int .i64 op] w fun e w' => e = .returned (.tuple #[(opAt op).val, .bool true]) /\ Below w.heap.size w w' := by
  have hix : ∀ W, (Instr.index 142 opsV (.int .i64 op)).run Tryz.prog W = .ok (opAt op).val W := by
    obtain ⟨k, rfl⟩ := Int.eq_ofNat_of_zero_le (show 0 <= op by omega)
    obtain rfl | rfl | rfl | rfl | rfl | rfl | rfl | rfl | rfl | rfl | rfl | rfl | rfl | rfl | rfl | rfl | rfl | rfl | rfl : k = 1 \/ k = 2 \/ k = 3 \/ k = 4 \/ k = 5 \/ k = 6 \/ k = 7 \/ k = 8 \/ k = 9 \/ k = 10 \/ k = 11 \/ k = 12 \/ k = 13 \/ k = 14 \/ k = 15 \/ k = 16 \/ k = 17 \/ k = 18 \/ k = 19 := by omega
    all_goals (intro W; kernel_rfl)
  obtain ⟨V, hV⟩ : ∃ V, opsV = V := ⟨_, rfl⟩
  obtain ⟨⟨a, b, c, d, s⟩, hO⟩ : ∃ O, opAt op = O := ⟨_, rfl⟩
  rw [hV, hO] at hix
  rw [hO]
  have HV := Lib.hid hV
  unfold Opr.val at hix |-
  clear hV hO
  go_enter Tryz.func55, Tryz.ntmps55
  go_wp2_with fail
  refine (R2 _).mono ?_
  rintro e w1 ⟨rfl, hb1⟩
  rw [HV.out]
  have hs := hb1.size
  have hrow : w1.heap[w.heap.size]? = some (.cells #[.int .i64 0, .int .i64 0, .int .i64 0, .int .i64 0, .string ⟨#[]⟩] 108 (0, 0)) := (hb1.block _ (by simp)).trans (heap_alloc_new w _)
  have HB := Lib.hid hb1
  have HS := Lib.hid (show w.heap.size < w1.heap.size by simp at hs; omega)
  have c0 : w1.cell? ⟨w.heap.size, 0, none⟩ = _ := cell_of_row _ _ _ _ _ _ hrow
  have c1 : w1.cell? ⟨w.heap.size, 1, none⟩ = _ := cell_of_row _ _ _ _ _ _ hrow
  have c2 : w1.cell? ⟨w.heap.size, 2, none⟩ = _ := cell_of_row _ _ _ _ _ _ hrow
  have c3 : w1.cell? ⟨w.heap.size, 3, none⟩ = _ := cell_of_row _ _ _ _ _ _ hrow
  have c4 : w1.cell? ⟨w.heap.size, 4, none⟩ = _ := cell_of_row _ _ _ _ _ _ hrow
  have f0 : w1.frozen? ⟨w.heap.size, 0, none⟩ = _ := frozen_of_row _ _ _ _ _ hrow
  have f1 : w1.frozen? ⟨w.heap.size, 1, none⟩ = _ := frozen_of_row _ _ _ _ _ hrow
  have f2 : w1.frozen? ⟨w.heap.size, 2, none⟩ = _ := frozen_of_row _ _ _ _ _ hrow
  have f3 : w1.frozen? ⟨w.heap.size, 3, none⟩ = _ := frozen_of_row _ _ _ _ _ hrow
  have f4 : w1.frozen? ⟨w.heap.size, 4, none⟩ = _ := frozen_of_row _ _ _ _ _ hrow
  simp only [List.getElem?_toArray, List.getElem?_cons_zero, List.getElem?_cons_succ] at c0 c1 c2 c3 c4
  have HR := Lib.hid hrow
  clear hb1 hs hrow
  go_wp2
  refine bodyPost_ret (v := .tuple #[.agg #[.int .i64 a, .int .i64 b, .int .i64 c, .int .i64 d, .string s], .bool true]) (by simp [results, Tryz.results55, go_sem, c0, c1, c2, c3, c4]) rfl ⟨rfl, ?_⟩
  have hb := ((Below.refl w.heap.size w).alloc (Nat.le_refl _) (.cells #[.int .i64 0, .int .i64 0, .int .i64 0, .int .i64 0, .string ⟨#[]⟩] 108)).trans (HB.out.mono (by simp))
  exact ((((hb.setCell (p := ⟨w.heap.size, 0, none⟩) (Nat.le_refl _) _).setCell (p := ⟨w.heap.size, 1, none⟩) (Nat.le_refl _) _).setCell (p := ⟨w.heap.size, 2, none⟩) (Nat.le_refl _) _).setCell (p := ⟨w.heap.size, 3, none⟩) (Nat.le_refl _) _).setCell (p := ⟨w.heap.size, 4, none⟩) (Nat.le_refl _) _
end Go.Proofs.YtjagmmmcibdibaaGreatDoor
namespace Go.Proofs.YtjagmmmcibdibaaGreatDoor
open Go.RowKit
theorem Ab1 (op : Int) (h1 : 1 <= op) (h2 : op <= 19) : (opAt op).operands = F8 op := by
  obtain ⟨k, rfl⟩ := Int.eq_ofNat_of_zero_le (show 0 <= op by omega)
  obtain rfl | rfl | rfl | rfl | rfl | rfl | rfl | rfl | rfl | rfl | rfl | rfl | rfl | rfl | rfl | rfl | rfl | rfl | rfl : k = 1 \/ k = 2 \/ k = 3 \/ k = 4 \/ k = 5 \/ k = 6 \/ k = 7 \/ k = 8 \/ k = 9 \/ k = 10 \/ k = 11 \/ k = 12 \/ k = 13 \/ k = 14 \/ k = 15 \/ k = 16 \/ k = 17 \/ k = 18 \/ k = 19 := by omega
  all_goals rfl
theorem Ad0 (op : Int) (h : op < 1 \/ 19 < op) : F8 op = -1 := by
  unfold F8
  rw [if_neg (by omega), if_neg (by omega), if_neg (by omega), if_neg (by omega)]
theorem L2 (op n : Int) (s : ByteArray) (l : List Ex) : Cc (.mk op n s l) = true <-> (l.length : Int) = F8 op /\ 0 <= n /\ n <= 9999 /\ (n = 0 \/ op = 1) /\ (if op = 2 then Du 1 s.data.toList 0 = 0 else s.size = 0) := by
  show ((((decide ((l.length : Int) = F8 op) && decide (0 <= n)) && decide (n <= 9999)) && (decide (n = 0) || decide (op = 1))) && (if op = 2 then decide (Du 1 s.data.toList 0 = 0) else decide (s.size = 0))) = true <-> _
  by_cases h : op = 2
  . rw [if_pos h, if_pos h]; simp only [Bool.and_eq_true, Bool.or_eq_true, decide_eq_true_eq, and_assoc]
  . rw [if_neg h, if_neg h]; simp only [Bool.and_eq_true, Bool.or_eq_true, decide_eq_true_eq, and_assoc]
theorem K5 {op n : Int} {s : ByteArray} {l : List Ex} (h : ¬ ((l.length : Int) = F8 op /\ 0 <= n /\ n <= 9999 /\ (n = 0 \/ op = 1))) : Cc (.mk op n s l) = false := by
  cases hp : Cc (.mk op n s l) with
  | false => rfl
  | true =>
    obtain ⟨h1, h2, h3, h4, _⟩ := (L2 op n s l).1 hp
    exact absurd ⟨h1, h2, h3, h4⟩ h
theorem Ux (s : ByteArray) : s.toList.isEmpty = decide (s.size = 0) := by
  rcases Nat.eq_zero_or_pos s.size with h | h
  . rw [D3 h, h]; rfl
  . rw [Ek h]; symm; rw [decide_eq_false_iff_not]; omega
theorem Ye {op n : Int} {s : ByteArray} {l : List Ex} (h1 : (l.length : Int) = F8 op) (h2 : ¬ n < 0) (h3 : ¬ 9999 < n) (h4 : n = 0 \/ op = 1) (h5 : op = 2) : Cc (.mk op n s l) = (Du 1 s.data.toList 0 == 0) := by
  rw [Bool.eq_iff_iff, L2, if_pos h5, beq_iff_eq]
  exact ⟨fun h => h.2.2.2.2, fun h => ⟨h1, by omega, by omega, h4, h⟩⟩
theorem V4 {op n : Int} {s : ByteArray} {l : List Ex} (h1 : (l.length : Int) = F8 op) (h2 : ¬ n < 0) (h3 : ¬ 9999 < n) (h4 : n = 0 \/ op = 1) (h5 : ¬ op = 2) : Cc (.mk op n s l) = s.toList.isEmpty := by
  rw [Bool.eq_iff_iff, L2, if_neg h5, Ux, decide_eq_true_eq]
  exact ⟨fun h => h.2.2.2.2, fun h => ⟨h1, by omega, by omega, h4, h⟩⟩
set_option maxHeartbeats 1000000 in
theorem Ag0 (v : Value) (x : Ex) (w : World) (h : Ade w v x) :
    Calls Tryz.prog 54 #[v] w fun e w' => e = .returned (.bool (Cc x)) /\ Below w.heap.size w w' := by
  obtain ⟨s, rfl, hn, ha⟩ := h
  obtain ⟨op, n, s', l⟩ := x
  obtain ⟨p, cap, S, rfl, hcap, hmax, -⟩ := ha.inv
  simp only [Ex.val, Ex.op, Ex.n, Ex.name, Ex.args] at hn hcap |-
  clear ha
  by_cases hop : 1 <= op /\ op <= 19
  . have HA := Lib.hid (Ab1 op hop.1 hop.2)
    go_enter Tryz.func54, Tryz.ntmps54
    go_wp2_with fail
    refine (Afd op _ hop.1 hop.2).mono ?_
    rintro e w1 ⟨rfl, hb1⟩
    have hrow : w1.heap[w.heap.size]? = some (.cells #[.int .i64 op, .int .i64 n, .string s', .slice p l.length cap] 24 (0, 0)) := (hb1.block _ (by simp)).trans (heap_alloc_new w _)
    have c0 : w1.cell? ⟨w.heap.size, 0, none⟩ = _ := cell_of_row _ _ _ _ _ _ hrow
    have c1 : w1.cell? ⟨w.heap.size, 1, none⟩ = _ := cell_of_row _ _ _ _ _ _ hrow
    have c2 : w1.cell? ⟨w.heap.size, 2, none⟩ = _ := cell_of_row _ _ _ _ _ _ hrow
    have c3 : w1.cell? ⟨w.heap.size, 3, none⟩ = _ := cell_of_row _ _ _ _ _ _ hrow
    simp only [List.getElem?_toArray, List.getElem?_cons_zero, List.getElem?_cons_succ] at c0 c1 c2 c3
    have hz : w.heap.size < w1.heap.size := Bk hrow
    have HB := Lib.hid (Dz hb1)
    obtain ⟨⟨a, b, c, d, sg⟩, hO⟩ : ∃ O, opAt op = O := ⟨_, rfl⟩
    rw [hO] at HA |-
    have HA' : Hid (a = F8 op) := HA
    clear hrow hb1 hO HA
    unfold Opr.val
    by_cases g1 : (l.length : Int) = a
    . subst g1
      by_cases g2 : n < 0
      . have hd0 : True := trivial
        have HP : Hid (Cc (.mk op n s' l) = false) := Lib.hid (K5 (by rw [<- HA'.out]; omega))
        go_wp2
        go_ret
        exact ⟨by rw [HP.out]; rfl, HB.out.alloc HB.out.size _⟩
      . by_cases g3 : 9999 < n
        . have hd0 : True := trivial
          have HP : Hid (Cc (.mk op n s' l) = false) := Lib.hid (K5 (by rw [<- HA'.out]; omega))
          go_wp2
          go_ret
          exact ⟨by rw [HP.out]; rfl, HB.out.alloc HB.out.size _⟩
        . by_cases g4 : n = 0 \/ op = 1
          . by_cases g5 : op = 2
            . have HP := Lib.hid (Ye (s := s') HA'.out g2 g3 g4 g5)
              subst g5
              obtain rfl : n = 0 := by omega
              obtain ⟨E, hE⟩ : ∃ E, Du 1 s'.data.toList 0 = E := ⟨_, rfl⟩
              have HE := Lib.hid hE
              clear hE g4
              go_wp2_with fail
              refine (T5 1 s' 0 _ hn).mono ?_
              rintro e w2 ⟨rfl, hb2⟩
              rw [HE.out]
              go_wp2
              go_ret
              exact ⟨by rw [HP.out, HE.out]; rfl, (HB.out.alloc HB.out.size _).trans (hb2.mono (HB.out.alloc HB.out.size _).size)⟩
            . have HP := Lib.hid (V4 (s := s') HA'.out g2 g3 g4 g5)
              by_cases g6 : n = 0
              . subst g6
                clear g4
                go_wp2
                go_ret
                exact ⟨by rw [HP.out]; rfl, HB.out.alloc HB.out.size _⟩
              . obtain rfl : op = 1 := by omega
                have hd : (n != 0) = true := by simpa using g6
                clear g4
                go_wp2
                go_ret
                exact ⟨by rw [HP.out]; rfl, HB.out.alloc HB.out.size _⟩
          . have hd1 : (n != 0) = true := by simp; omega
            have hd2 : (op != 1) = true := by simp; omega
            have HP : Hid (Cc (.mk op n s' l) = false) := Lib.hid (K5 (by rw [<- HA'.out]; omega))
            go_wp2
            go_ret
            exact ⟨by rw [HP.out]; rfl, HB.out.alloc HB.out.size _⟩
    . have hd : ((l.length : Int) != a) = true := by simpa using g1
      have HP : Hid (Cc (.mk op n s' l) = false) := Lib.hid (K5 (by rw [<- HA'.out]; omega))
      go_wp2
      go_ret
      exact ⟨by rw [HP.out]; rfl, HB.out.alloc HB.out.size _⟩
  . have hop' : op < 1 \/ 19 < op := by omega
    have HP : Hid (Cc (.mk op n s' l) = false) := Lib.hid (by simp [Cc, Ex.op, Ex.args, Ad0 op hop'])
    go_enter Tryz.func54, Tryz.ntmps54
    go_wp2_with fail
    refine (known_no op _ hop').mono ?_
    rintro e w1 ⟨rfl, hb1⟩
    unfold Opr.val
    go_wp2
    go_ret
    exact ⟨by rw [HP.out]; rfl, (Dz hb1).alloc (Dz hb1).size _⟩
end Go.Proofs.YtjagmmmcibdibaaGreatDoor
namespace Go.Proofs.YtjagmmmcibdibaaGreatDoor
open Go.RowKit
attribute [local go_sem] Oper.semAt_some
mutual
def Dt {σ : Type} (step : σ -> Ex -> Nat -> σ × Bool) (s : σ) (d : Nat) : Ex -> σ × Bool
  | .mk op n nm l => if (step s (.mk op n nm l) d).2 = true then I2 step (step s (.mk op n nm l) d).1 (d + 1) l else ((step s (.mk op n nm l) d).1, false)
def I2 {σ : Type} (step : σ -> Ex -> Nat -> σ × Bool) (s : σ) (d : Nat) : List Ex -> σ × Bool
  | [] => (s, true)
  | x :: r => if (Dt step s d x).2 = true then I2 step (Dt step s d x).1 d r else ((Dt step s d x).1, false)
end
theorem Th {σ : Type} (step : σ -> Ex -> Nat -> σ × Bool) (s : σ) (d : Nat) (x : Ex) : Dt step s d x = if (step s x d).2 = true then I2 step (step s x d).1 (d + 1) x.args else ((step s x d).1, false) := by
  cases x; rw [Dt]; rfl
theorem Q0 {σ : Type} (step : σ -> Ex -> Nat -> σ × Bool) (s : σ) (d : Nat) (l : List Ex) (j : Nat) (x : Ex) (hx : l[j]? = some x) :
    I2 step s d (l.drop j) = if (Dt step s d x).2 = true then I2 step (Dt step s d x).1 d (l.drop (j + 1)) else ((Dt step s d x).1, false) := by
  obtain ⟨hj, rfl⟩ := List.getElem?_eq_some_iff.1 hx
  rw [List.drop_eq_getElem_cons hj, I2]
def KF (W W' : World) : Prop := ∀ (b : Nat) (C : Array Value) (t : TypeId) (f : Nat × Nat), t = 132 \/ t = 24 -> W.heap[b]? = some (.cells C t f) -> W'.heap[b]? = some (.cells C t f)
theorem KF.refl (W : World) : KF W W := fun _ _ _ _ _ h => h
theorem KF.trans {A B C : World} (h : KF A B) (k : KF B C) : KF A C := fun b c t f ht hb => k b c t f ht (h b c t f ht hb)
theorem KF.below {W W' : World} (h : Below W.heap.size W W') : KF W W' := fun b _ _ _ _ hb => (h.block b (Array.getElem?_eq_some_iff.1 hb).1).trans hb
def Js (W : World) (b : Nat) (v : Value) : Prop := W.heap[b]? = some (.cells #[v] 132 (0, 0))
theorem Js.cell {W : World} {b : Nat} {v : Value} (h : Js W b v) : W.cell? ⟨b, 0, none⟩ = some v := cell_of_row _ _ _ _ _ _ h
def Ie {σ : Type} (J Jx : σ -> World -> Prop) (r : σ × Bool) (W : World) (e : Ending) (W' : World) : Prop :=
  e = .returned (.bool r.2) /\ (if r.2 = true then J r.1 W' else Jx r.1 W') /\ KF W W'
set_option maxRecDepth 100000 in
set_option maxHeartbeats 4000000 in
theorem Adb {σ : Type} (step : σ -> Ex -> Nat -> σ × Bool) (J Jx : σ -> World -> Prop) (P : Ex -> Nat -> Prop) (w : World) (l Y V : Nat)
    (hJw : ∀ s W, J s W -> Below w.heap.size w W) (hJb : ∀ s W W', J s W -> Below W.heap.size W W' -> J s W')
    (hY : ∀ s x v d W, J s W -> P x d -> Ade w v x -> YieldAt Fence.wide 4 Tryz.prog l #[v, .int .i64 (d : Nat)] W (Ie J Jx (step s x d) W))
    (hP : ∀ s x d, P x d -> (step s x d).2 = true -> d <= 100 /\ ∀ a ∈ x.args, P a (d + 1))
    {sl : Value} {args : List Ex} (h : ArgsAt w sl args) : ∀ (x : Ex) (d : Nat) (s : σ) (W : World), x.args = args -> x.name.size <= 9223372036854775807 -> P x d -> J s W -> Js W Y (.func (.yield l) #[] #[]) -> Js W V (.func (.func 76) #[] #[.pointer (some ⟨Y, 0, none⟩), .pointer (some ⟨V, 0, none⟩)]) ->
      Calls Tryz.prog 76 #[x.val sl, .int .i64 d, .pointer (some ⟨Y, 0, none⟩), .pointer (some ⟨V, 0, none⟩)] W (Ie J Jx (Dt step s d x) W) := by
  induction h with
  | mk p cap args S hcap hmax hfit hname hargs ih =>
    intro x d s W hxa hxn hPx hJ hbY hbV
    refine (callsIn_wide (n := 6)).1 ?_
    obtain ⟨op, n, nm, l'⟩ := x
    obtain rfl : l' = args := hxa
    have hE : Ade w ((Ex.mk op n nm l').val (.slice p l'.length cap)) (.mk op n nm l') := ⟨_, rfl, hxn, .mk p cap l' S hcap hmax hfit hname hargs⟩
    simp only [Ex.val, Ex.op, Ex.n, Ex.name] at hE hxn |-
    refine callsIn_of_wp Tryz.func76 rfl trivial ?_ rfl
    simp only [Tryz.ntmps76, List.size_toArray, List.length_cons, List.length_nil, Nat.reduceAdd, Nat.reduceSub, Array.replicate_succ, Array.replicate_zero, List.push_toArray, List.append_toArray, List.nil_append, List.cons_append]
    have cY := hbY.cell
    have cV := hbV.cell
    have hsY := Bk hbY
    have hsV := Bk hbV
    obtain ⟨W1, hW1⟩ : ∃ W1, W.alloc (.cells #[.int .i64 op, .int .i64 n, .string nm, .slice p l'.length cap] 24) = W1 := ⟨_, rfl⟩
    have hb1 : Below W.heap.size W W1 := by rw [<- hW1]; exact (Below.refl _ _).alloc (Nat.le_refl _) _
    have hrow1 : W1.heap[W.heap.size]? = some (.cells #[.int .i64 op, .int .i64 n, .string nm, .slice p l'.length cap] 24 (0, 0)) := by rw [<- hW1]; exact heap_alloc_new W _
    have HJ1 := Lib.hid (hJb s W W1 hJ hb1)
    have hy0 := hY s _ _ d W1 HJ1.out hPx hE
    have HW1 := Lib.hid hW1
    have HB1 := Lib.hid hb1
    have HR1 := Lib.hid hrow1
    have HK1 := Lib.hid (KF.below hb1)
    have hP1 := hP s _ d hPx
    have HBY := Lib.hid hbY
    have HBV := Lib.hid hbV
    have HJw := Lib.hid hJw
    have HJb := Lib.hid hJb
    have HY := Lib.hid hY
    have HP := Lib.hid hP
    have HIH := Lib.hid ih
    have HWX := Lib.hid (Th step s d (.mk op n nm l'))
    obtain ⟨r, hr⟩ : ∃ r, step s (.mk op n nm l') d = r := ⟨_, rfl⟩
    rw [hr] at hy0 hP1
    have HP1 := Lib.hid hP1
    rw [hr] at HWX
    obtain ⟨s1, b1⟩ := r
    obtain ⟨fn, tmps, assign, body, hy, hRd⟩ := Gq (m' := 5) hy0
    rw [<- hW1] at hy
    have HRD := Lib.hid hRd
    clear hW1 hb1 hrow1 hP1 hbY hbV hJw hJb hY hP ih hr hy0 hRd hE hJ
    gi_wp2_with fail
    rw [HW1.out]
    refine HRD.out.mono ?_
    rintro e w5 ⟨rfl, hj, hk5⟩
    have HK5 := Lib.hid hk5
    clear hk5 HRD hy
    cases b1 with
    | false =>
      have HJx := Lib.hid hj
      clear hj
      gi_wp2
      go_ret
      rw [if_neg (by simp)] at HWX
      refine ⟨by rw [HWX.out]; rfl, ?_, HK1.out.trans HK5.out⟩
      rw [HWX.out]
      exact HJx.out
    | true =>
      have HJ5 := Lib.hid hj
      have hrow5 := HK5.out _ _ _ _ (.inr rfl) HR1.out
      have c3 : w5.cell? ⟨W.heap.size, 3, none⟩ = some (.slice p l'.length cap) := cell_of_row _ _ _ _ _ _ hrow5
      have hz5 : W.heap.size < w5.heap.size := Bk hrow5
      rw [if_pos rfl] at HWX
      have hP1 := HP1.out rfl
      clear hj hrow5
      gi_wp2
      gi_loopw [17] (fun i wr => ∃ (j : Nat) (t : σ), j <= l'.length /\ i = .int .i64 j /\ J t wr /\ KF w5 wr /\ I2 step t (d + 1) (l'.drop j) = Dt step s d (.mk op n nm l')) (fun i _ => l'.length - (intOf i).toNat)
      case atStart => exact ⟨0, s1, Nat.zero_le _, rfl, HJ5.out, KF.refl _, HWX.out.symm⟩
      case round =>
        obtain ⟨j, t, hj, rfl, hJt, hk, hwl⟩ := hrel
        have HJT := Lib.hid hJt
        have HK := Lib.hid hk
        have HWL := Lib.hid hwl
        have cYr := (show Js wr Y (.func (.yield l) #[] #[]) from hk _ _ _ _ (.inl rfl) (HK5.out _ _ _ _ (.inl rfl) (HK1.out _ _ _ _ (.inl rfl) HBY.out))).cell
        have cVr := (show Js wr V (.func (.func 76) #[] #[.pointer (some ⟨Y, 0, none⟩), .pointer (some ⟨V, 0, none⟩)]) from hk _ _ _ _ (.inl rfl) (HK5.out _ _ _ _ (.inl rfl) (HK1.out _ _ _ _ (.inl rfl) HBV.out))).cell
        clear hJt hk hwl
        by_cases hlt : j < l'.length
        . obtain ⟨a, ha⟩ : ∃ a, l'[j]? = some a := ⟨_, List.getElem?_eq_getElem hlt⟩
          have hbw := HJw.out _ _ HJT.out
          obtain ⟨pj, cj, Sj, hSj, -⟩ := (hargs j a ha).inv
          have hsub := HIH.out j a ha a (d + 1)
          rw [hSj] at hsub
          have HSUB := Lib.hid hsub
          clear hsub
          have hPa := hP1.2 a (List.mem_of_getElem? ha)
          have hd100 := hP1.1
          have hna := hname j a ha
          have HWD := Lib.hid (Q0 step t (d + 1) l' j a ha)
          obtain ⟨b, o, rfl, hc⟩ := hfit (by rintro rfl; simp at hlt)
          obtain ⟨e0, e1, e2, e3⟩ := hc j a ha
          have c0 := Az hbw e0
          have c1 := Az hbw e1
          have c2 := Az hbw e2
          have c4 := Az hbw e3
          have hz := Fg c0
          rw [hSj] at c4
          clear e0 e1 e2 e3 hc hbw ha hSj
          obtain ⟨oa, na, nma, la⟩ := a
          simp only [Ex.op, Ex.n, Ex.name, Ex.args] at c0 c1 c2 c4 hna
          have hV2 := Fg cVr
          have hw1 : IntKind.i64.wrap ((d : Int) + 1) = ((d + 1 : Nat) : Int) := by rw [IntKind.wrap_i64]; omega
          gi_wp2_with fail
          obtain ⟨W6, hW6⟩ : ∃ W6, wr.alloc (.cells #[.int .i64 oa, .int .i64 na, .string nma, .slice pj la.length cj] 24) = W6 := ⟨_, rfl⟩
          have hb6 : Below wr.heap.size wr W6 := by rw [<- hW6]; exact (Below.refl _ _).alloc (Nat.le_refl _) _
          have HK6 := Lib.hid (KF.below hb6)
          have hcall := HSUB.out t W6 (by trivial) hna hPa (HJb.out _ _ _ HJT.out hb6)
            (HK6.out _ _ _ _ (.inl rfl) (HK.out _ _ _ _ (.inl rfl) (HK5.out _ _ _ _ (.inl rfl) (HK1.out _ _ _ _ (.inl rfl) HBY.out))))
            (HK6.out _ _ _ _ (.inl rfl) (HK.out _ _ _ _ (.inl rfl) (HK5.out _ _ _ _ (.inl rfl) (HK1.out _ _ _ _ (.inl rfl) HBV.out))))
          rw [hW6]
          obtain ⟨⟨t6, b6⟩, hr6⟩ : ∃ r, Dt step t (d + 1) (.mk oa na nma la) = r := ⟨_, rfl⟩
          rw [hr6] at hcall
          have HWD' := HWD
          rw [hr6] at HWD'
          have HC := Lib.hid hcall
          clear hcall hr6 hb6 HWD
          refine ⟨trivial, (callsIn_wide.2 (show Calls Tryz.prog 76 #[.agg #[.int .i64 oa, .int .i64 na, .string nma, .slice pj la.length cj], .int .i64 ((d : Int) + 1), .pointer (some ⟨Y, 0, none⟩), .pointer (some ⟨V, 0, none⟩)] W6 _ from HC.out)).mono ?_⟩
          rintro e w7 ⟨rfl, hj7, hk7⟩
          have HK7 := Lib.hid (HK.out.trans (HK6.out.trans hk7))
          clear hk7 HC hW6 hw1
          cases b6 with
          | false =>
            have HJ7 := Lib.hid hj7
            clear hj7
            gi_wp2
            go_ret
            have h := HWD'.out
            rw [if_neg (by simp), HWL.out] at h
            rw [h]
            exact ⟨rfl, HJ7.out, HK1.out.trans (HK5.out.trans HK7.out)⟩
          | true =>
            have HJ7 := Lib.hid hj7
            clear hj7
            gi_wp2
            go_round
            case rel => exact ⟨j + 1, t6, by omega, by go_num, HJ7.out, HK7.out, (HWD'.out.trans (if_pos trivial)).symm.trans HWL.out⟩
            case measure => simp [intOf]; omega
        . obtain rfl : j = l'.length := by omega
          gi_wp2
          go_ret
          have h := HWL.out
          rw [List.drop_length, I2] at h
          rw [<- h]
          exact ⟨rfl, HJT.out, HK1.out.trans (HK5.out.trans HK.out)⟩
end Go.Proofs.YtjagmmmcibdibaaGreatDoor
namespace Go.Proofs.YtjagmmmcibdibaaGreatDoor
open Go.RowKit
attribute [local go_sem] Oper.semAt_some
theorem Af8 (v : Value) (x : Ex) (w : World) (h : Ade w v x) :
    Calls Tryz.prog 40 #[v] w fun e w' => e = .returned (.func (.func 75) #[] #[.pointer (some ⟨w.heap.size, 0, none⟩)]) /\ w.alloc (.cells v.cells 24) = w' := by
  have hmf : ∀ (fn : Fn) (first cap : Array Value) (w : World), (Instr.makeFunc fn first cap).run Tryz.prog w = .ok (.func fn first cap) w := fun _ _ _ _ => rfl
  obtain ⟨s, rfl, hn, ha⟩ := h
  obtain ⟨p, cap, S, rfl, hcap, hmax, -⟩ := ha.inv
  obtain ⟨op, n, nm, l⟩ := x
  simp only [Ex.val, Ex.op, Ex.n, Ex.name, Ex.args]
  go_enter Tryz.func40, Tryz.ntmps40
  go_wp2
  go_ret
  exact ⟨rfl, rfl⟩
def Adm {σ : Type} (J Jx : σ -> World -> Prop) (r : σ × Bool) (e : Ending) (W' : World) : Prop :=
  e = .returned (.tuple #[]) /\ (if r.2 = true then J r.1 W' else Jx r.1 W')
set_option maxRecDepth 100000 in
set_option maxHeartbeats 4000000 in
theorem Abz {σ : Type} (step : σ -> Ex -> Nat -> σ × Bool) (J Jx : σ -> World -> Prop) (P : Ex -> Nat -> Prop) (w : World) (l XB : Nat)
    (hJw : ∀ s W, J s W -> Below w.heap.size w W) (hJb : ∀ s W W', J s W -> Below W.heap.size W W' -> J s W')
    (hY : ∀ s x v d W, J s W -> P x d -> Ade w v x -> YieldAt Fence.wide 4 Tryz.prog l #[v, .int .i64 (d : Nat)] W (Ie J Jx (step s x d) W))
    (hP : ∀ s x d, P x d -> (step s x d).2 = true -> d <= 100 /\ ∀ a ∈ x.args, P a (d + 1))
    (v : Value) (x : Ex) (s : σ) (W0 : World) (hx : Ade w v x) (hPx : P x 1) (hJ : J s W0) (hb : W0.heap[XB]? = some (.cells v.cells 24 (0, 0))) :
    Calls Tryz.prog 75 #[.func (.yield l) #[] #[], .pointer (some ⟨XB, 0, none⟩)] W0 (Adm J Jx (Dt step s 1 x)) := by
  have hmf : ∀ (fn : Fn) (first cap : Array Value) (w : World), (Instr.makeFunc fn first cap).run Tryz.prog w = .ok (.func fn first cap) w := fun _ _ _ _ => rfl
  obtain ⟨sl, rfl, hn, ha⟩ := hx
  have HV := Lib.hid (Adb step J Jx P w l W0.heap.size (W0.heap.size + 1) hJw hJb hY hP ha x 1 s)
  obtain ⟨p, cap, S, rfl, hcap, hmax, -⟩ := ha.inv
  have HJb := Lib.hid hJb
  have HJ := Lib.hid hJ
  obtain ⟨op, n, nm, args⟩ := x
  simp only [Ex.val, Ex.op, Ex.n, Ex.name, Ex.args, Value.cells] at hb hn hcap
  have c0 : W0.cell? ⟨XB, 0, none⟩ = _ := cell_of_row _ _ _ _ _ _ hb
  have c1 : W0.cell? ⟨XB, 1, none⟩ = _ := cell_of_row _ _ _ _ _ _ hb
  have c2 : W0.cell? ⟨XB, 2, none⟩ = _ := cell_of_row _ _ _ _ _ _ hb
  have c3 : W0.cell? ⟨XB, 3, none⟩ = _ := cell_of_row _ _ _ _ _ _ hb
  simp only [List.getElem?_toArray, List.getElem?_cons_zero, List.getElem?_cons_succ] at c0 c1 c2 c3
  have hz := Bk hb
  clear hJw hJb hY hP hb ha
  go_enter Tryz.func75, Tryz.ntmps75
  go_wp2_with fail
  refine (HV.out _ (by trivial) hn hPx (HJb.out _ _ _ HJ.out ?_) (Ai (Ay rfl)) (Ay (by simp))).mono ?_
  . exact ((Below.refl _ _).alloc (Nat.le_refl _) _).alloc (by simp) _
  rintro e w5 ⟨rfl, hj, -⟩
  have HJ5 := Lib.hid hj
  clear hj
  go_wp2
  go_end0
  exact ⟨rfl, HJ5.out⟩
end Go.Proofs.YtjagmmmcibdibaaGreatDoor
namespace Go.Proofs.YtjagmmmcibdibaaGreatDoor
open Go.RowKit
attribute [local go_sem] Oper.semAt_some
def Ct (left : Nat) (x : Ex) (d : Nat) : Nat × Bool := (left - 1, decide (left ≠ 0) && decide (d <= 12) && Cc x)
mutual
theorem Aa9 (left d : Nat) : (x : Ex) -> vis left d x = if (Dt Ct left d x).2 = true then some (Dt Ct left d x).1 else none
  | .mk op n nm l => by
    rw [vis_eq, Th]
    by_cases h : left = 0 \/ 12 < d \/ Cc (.mk op n nm l) = false
    . rw [if_pos h]
      have : (Ct left (.mk op n nm l) d).2 = false := by
        simp only [Ct, Bool.and_eq_false_iff, decide_eq_false_iff_not]
        rcases h with h | h | h
        . exact .inl (.inl (by omega))
        . exact .inl (.inr (by omega))
        . exact .inr h
      rw [this]; simp
    . rw [if_neg h]
      have h' : (Ct left (.mk op n nm l) d).2 = true := by
        simp only [Ct, Bool.and_eq_true, decide_eq_true_eq]
        refine ⟨⟨by omega, by omega⟩, ?_⟩
        cases hp : Cc (.mk op n nm l) with
        | true => rfl
        | false => exact absurd (.inr (.inr hp)) h
      rw [if_pos h']
      exact Wt (left - 1) (d + 1) l
theorem Wt (left d : Nat) : (l : List Ex) -> Mv left d l = if (I2 Ct left d l).2 = true then some (I2 Ct left d l).1 else none
  | [] => by simp [Mv, I2]
  | x :: r => by
    rw [Mv, I2, Aa9 left d x]
    by_cases h : (Dt Ct left d x).2 = true
    . rw [if_pos h, if_pos h]; exact Wt _ d r
    . rw [if_neg h, if_neg h]; simp
end
theorem KF.put {W : World} {l : Nat} {ρ : Loop} (o' : Obj) (h : W.heap[l]? = some (.loop ρ)) : KF W (W.putObj l o') := by
  intro b C t f _ hb
  refine (World.putObj_heap_other ?_).trans hb
  rintro rfl
  rw [h] at hb; cases hb
theorem KF.set {W : World} {b : Nat} {C : Array Value} {t : TypeId} (v : Value) (h : W.heap[b]? = some (.cells C t (0, 0))) (h1 : t ≠ 132) (h2 : t ≠ 24) : KF W (W.setCell ⟨b, 0, none⟩ v) := by
  intro b' C' t' f ht hb
  refine Ar hb ?_ v
  rintro rfl
  rw [h] at hb; cases hb
  rcases ht with ht | ht
  . exact h1 ht
  . exact h2 ht
structure ChkJ (w : World) (ρ : Loop) (left : Int) (W : World) : Prop where
  err : W.heap[w.heap.size + 1]? = some (.cells #[.int .i64 0] 43 (0, 0))
  left_ : W.heap[w.heap.size + 2]? = some (.cells #[.int .i64 left] 3 (0, 0))
  mark : W.heap[w.heap.size + 4]? = some (.deferred (some []))
  loop : W.heap[w.heap.size + 5]? = some (.loop ρ)
  small : -1 <= left /\ left <= 60
  below : Below w.heap.size w W
structure ChkJx (w : World) (ρ : Loop) (W : World) : Prop where
  err : W.heap[w.heap.size + 1]? = some (.cells #[.int .i64 350] 43 (0, 0))
  mark : W.heap[w.heap.size + 4]? = some (.deferred (some []))
  loop : W.heap[w.heap.size + 5]? = some (.loop ρ)
  below : Below w.heap.size w W
theorem ChkJ.kept {w : World} {ρ : Loop} {left : Int} {W W' : World} (h : ChkJ w ρ left W) (hb : Below W.heap.size W W') : ChkJ w ρ left W' :=
  ⟨(hb.block _ (Bk h.err)).trans h.err, (hb.block _ (Bk h.left_)).trans h.left_, (hb.block _ (Bk h.mark)).trans h.mark, (hb.block _ (Bk h.loop)).trans h.loop, h.small, h.below.trans (hb.mono h.below.size)⟩
theorem ChkJ.put {w : World} {ρ : Loop} {left : Int} {W : World} (h : ChkJ w ρ left W) (ρ' : Loop) : ChkJ w ρ' left (W.putObj (w.heap.size + 5) (.loop ρ')) :=
  ⟨Cf h.err (by omega), Cf h.left_ (by omega), Cf h.mark (by omega), World.putObj_heap_same (Bk h.loop), h.small, h.below.grown (grownBy_putObj' W _ _) h.below.size (fun b e => by cases e; omega)⟩
theorem ChkJx.put {w : World} {ρ : Loop} {W : World} (h : ChkJx w ρ W) (ρ' : Loop) : ChkJx w ρ' (W.putObj (w.heap.size + 5) (.loop ρ')) :=
  ⟨Cf h.err (by omega), Cf h.mark (by omega), World.putObj_heap_same (Bk h.loop), h.below.grown (grownBy_putObj' W _ _) h.below.size (fun b e => by cases e; omega)⟩
theorem ChkJ.dec {w : World} {ρ : Loop} {z : Int} {W : World} (h : ChkJ w ρ z W) (hz : 0 <= z) : ChkJ w ρ (z - 1) (W.setCell ⟨w.heap.size + 2, 0, none⟩ (.int .i64 (z - 1))) /\ KF W (W.setCell ⟨w.heap.size + 2, 0, none⟩ (.int .i64 (z - 1))) :=
  ⟨⟨Ar h.err (by omega) _, Boxed.set _ h.left_, Ar h.mark (by omega) _, Ar h.loop (by omega) _, by have := h.small; omega, h.below.setCell (p := ⟨w.heap.size + 2, 0, none⟩) (by show _ <= _ + 2; omega) _⟩, KF.set _ h.left_ (by decide) (by decide)⟩
theorem ChkJ.stop {w : World} {ρ : Loop} {z : Int} {W : World} (h : ChkJ w ρ z W) : ChkJx w ρ (W.setCell ⟨w.heap.size + 1, 0, none⟩ (.int .i64 350)) /\ KF W (W.setCell ⟨w.heap.size + 1, 0, none⟩ (.int .i64 350)) :=
  ⟨⟨Boxed.set _ h.err, Ar h.mark (by omega) _, Ar h.loop (by omega) _, h.below.setCell (p := ⟨w.heap.size + 1, 0, none⟩) (Nat.le_succ _) _⟩, KF.set _ h.err (by decide) (by decide)⟩
theorem leave1 {P : Program} {f : Func} {tmps : Array Value} {k n : Nat} {R : Ending -> World -> Prop} {X : World} {v : Value} (hm : X.heap[k]? = some (.deferred (some []))) (hres : (results f tmps).run P (X.putObj k (.deferred none)) = .ok v (X.putObj k (.deferred none)))
    (hR : R (.returned v) (X.putObj k (.deferred none))) : LeavesInM Fence.wide n P f tmps R [{ target := .collected k, args := #[] }] .returning X := by
  refine ⟨by simp, .inl ⟨_, _, rfl, run_takeDeferred hm, ?_⟩⟩
  exact ⟨_, hres, hR⟩
theorem Tf {σ : Type} {J Jx : σ -> World -> Prop} {r : σ × Bool} {W X : World} (h : r.2 = false) (hx : Jx r.1 X) (hk : KF W X) : Ie J Jx r W (.returned (.bool false)) X :=
  ⟨by rw [h], by rw [h, if_neg (by simp)]; exact hx, hk⟩
theorem Ah5 {σ : Type} {J Jx : σ -> World -> Prop} {r : σ × Bool} {W X : World} (h : r.2 = true) (hx : J r.1 X) (hk : KF W X) : Ie J Jx r W (.returned (.bool true)) X :=
  ⟨by rw [h], by rw [h, if_pos rfl]; exact hx, hk⟩
set_option maxRecDepth 100000 in
set_option maxHeartbeats 4000000 in
theorem Add (v : Value) (x : Ex) (w : World) (hx : Ade w v x) :
    Calls Tryz.prog 25 #[v] w fun e w' => e = .returned (.int .i64 (Bp x)) /\ Below w.heap.size w w' := by
  refine (callsIn_wide (n := 6)).1 ?_
  have hx0 := hx
  obtain ⟨sl, rfl, hn, ha⟩ := hx
  obtain ⟨p, cap, S, rfl, hcap, hmax, -⟩ := ha.inv
  obtain ⟨op, n, nm, args⟩ := x
  simp only [Ex.val, Ex.op, Ex.n, Ex.name, Ex.args] at hn hcap hx0 |-
  have HX := Lib.hid hx0
  clear ha hx0
  refine callsIn_of_wp_marks Tryz.func25 rfl trivial ?_ rfl
  simp only [Tryz.ntmps25, List.size_toArray, List.length_cons, List.length_nil, Nat.reduceAdd, Nat.reduceSub, Array.replicate_succ, Array.replicate_zero, List.push_toArray, List.append_toArray, List.nil_append, List.cons_append]
  gi_wp2_with fail
  refine ⟨trivial, (callsIn_wide.2 (Af8 _ _ _ (HX.out.mono ?_))).mono ?_⟩
  . exact (((Below.refl _ _).alloc (Nat.le_refl _) _).alloc (by simp) _).alloc (by simp; omega) _
  rintro e w' ⟨rfl, rfl⟩
  simp only [Value.cells, World.size_alloc, Nat.add_assoc, Nat.reduceAdd]
  gi_wp2
  obtain ⟨W0, hW0⟩ : ∃ W0, (((w.alloc (.cells #[.int .i64 op, .int .i64 n, .string nm, .slice p args.length cap] 24)).alloc (.cells #[.int .i64 0] 43)).alloc (.cells #[.int .i64 60] 3)).alloc (.cells #[.int .i64 op, .int .i64 n, .string nm, .slice p args.length cap] 24) = W0 := ⟨_, rfl⟩
  have hs0 : W0.heap.size = w.heap.size + 4 := by rw [<- hW0]; simp
  have hb0 : Below w.heap.size w W0 := by rw [<- hW0]; exact ((((Below.refl _ _).alloc (Nat.le_refl _) _).alloc (by simp) _).alloc (by simp; omega) _).alloc (by simp; omega) _
  have h1 : W0.heap[w.heap.size + 1]? = some (.cells #[.int .i64 0] 43 (0, 0)) := by rw [<- hW0]; exact Ai (Ai (Ay (by simp)))
  have h2 : W0.heap[w.heap.size + 2]? = some (.cells #[.int .i64 60] 3 (0, 0)) := by rw [<- hW0]; exact Ai (Ay (by simp))
  have h3 : W0.heap[w.heap.size + 3]? = some (.cells #[.int .i64 op, .int .i64 n, .string nm, .slice p args.length cap] 24 (0, 0)) := by rw [<- hW0]; exact Ay (by simp)
  rw [hW0]
  refine Da rfl (by omega) (gf := 75) (lb := #[.pointer (some ⟨w.heap.size + 3, 0, none⟩)]) rfl trivial (enters_of Tryz.func75 (by kernel_rfl) rfl) ?_
  intro ρ hround
  rw [hs0] at hround |-
  simp only [Nat.add_assoc, Nat.reduceAdd] at hround |-
  have HJ0 : Hid (ChkJ w (ρ .ready none) 60 ((W0.alloc (.deferred (some []))).alloc (.loop (ρ .ready none)))) := Lib.hid
    ⟨Ai (Ai h1), Ai (Ai h2), Ai (Ay hs0.symm), Ay (by simp [hs0]), by omega, (hb0.alloc hb0.size _).alloc (by simp [hs0]; omega) _⟩
  have HX3 := Lib.hid (Ai (o := .loop (ρ .ready none)) (Ai (o := .deferred (some [])) h3))
  clear hW0 hb0 h1 h2 h3
  refine (callsIn_wide.2 (Abz Ct (fun k => ChkJ w (ρ .ready none) (k : Int)) (fun _ => ChkJx w (ρ .done (some .ret))) (fun _ d => d <= 13) w (w.heap.size + 5) (w.heap.size + 3) (fun _ _ h => h.below) (fun _ _ _ h hb => h.kept hb) ?_ ?_ _ _ 60 _ HX.out (by omega) HJ0.out (by simpa [Value.cells] using HX3.out))).mono ?_
  . rintro s y v' d W hJ hd ⟨sy, rfl, hny, hay⟩
    have hEy : Ade w (y.val sy) y := ⟨sy, rfl, hny, hay⟩
    obtain ⟨py, cy, Sy, rfl, hcy, hmy, -⟩ := hay.inv
    have HST : Hid (Ct s y d = (s - 1, decide (s ≠ 0) && decide (d <= 12) && Cc y)) := Lib.hid rfl
    obtain ⟨op2, n2, nm2, l2⟩ := y
    refine Gq (m := 4) ?_
    simp only [Ex.val, Ex.op, Ex.n, Ex.name, Ex.args] at hEy hny hcy |-
    refine hround #[_, _] W _ rfl hJ.loop ?_
    have HJ := Lib.hid hJ
    have HE := Lib.hid hEy
    clear hround hJ hay hEy
    gi_wp2
    have hb1 : Below W.heap.size W (W.alloc (.cells #[.int .i64 op2, .int .i64 n2, .string nm2, .slice py l2.length cy] 24)) := (Below.refl _ _).alloc (Nat.le_refl _) _
    have hJ1 := HJ.out.kept hb1
    refine ⟨hJ1.loop, ?_⟩
    refine Q3 (G := fun W2 => ChkJ w (ρ .busy none) s W2 /\ W2.heap[W.heap.size]? = some (.cells #[.int .i64 op2, .int .i64 n2, .string nm2, .slice py l2.length cy] 24 (0, 0)) /\ KF W W2) ⟨?_, ?_, ?_⟩ ?_
    . exact hJ1.put _
    . exact Cf (heap_alloc_new W _) (by have := Bk HJ.out.loop; omega)
    . exact (KF.below hb1).trans (KF.put _ hJ1.loop)
    rintro W2 ⟨hJ2, hrow, hk2⟩
    have c1 : W2.cell? ⟨w.heap.size + 1, 0, none⟩ = _ := cell_of_row _ _ _ _ _ _ hJ2.err
    have c2 : W2.cell? ⟨w.heap.size + 2, 0, none⟩ = _ := cell_of_row _ _ _ _ _ _ hJ2.left_
    have f1 : W2.frozen? ⟨w.heap.size + 1, 0, none⟩ = _ := frozen_of_row _ _ _ _ _ hJ2.err
    have f2 : W2.frozen? ⟨w.heap.size + 2, 0, none⟩ = _ := frozen_of_row _ _ _ _ _ hJ2.left_
    have d0 : W2.cell? ⟨W.heap.size, 0, none⟩ = _ := cell_of_row _ _ _ _ _ _ hrow
    have d1 : W2.cell? ⟨W.heap.size, 1, none⟩ = _ := cell_of_row _ _ _ _ _ _ hrow
    have d2 : W2.cell? ⟨W.heap.size, 2, none⟩ = _ := cell_of_row _ _ _ _ _ _ hrow
    have d3 : W2.cell? ⟨W.heap.size, 3, none⟩ = _ := cell_of_row _ _ _ _ _ _ hrow
    simp only [List.getElem?_toArray, List.getElem?_cons_zero, List.getElem?_cons_succ] at c1 c2 d0 d1 d2 d3
    have hsm := hJ2.small
    have hwW := Bk HJ.out.loop
    have HJ2 := Lib.hid hJ2
    have HK2 := Lib.hid hk2
    clear hb1 hJ1 hJ2 hrow hk2
    have hdec := HJ2.out.dec (by omega)
    have hstop := hdec.1.stop
    have HD := Lib.hid hdec
    have HSTOP := Lib.hid hstop
    clear hdec hstop
    by_cases hs0' : s = 0
    . subst hs0'
      gi_wp2
      refine ⟨trivial, ?_⟩
      gi_wp2
      refine ⟨HSTOP.out.1.loop, ?_⟩
      exact Tf (by simp [Ct]) (HSTOP.out.1.put _) (HK2.out.trans (HD.out.2.trans (HSTOP.out.2.trans (KF.put _ HSTOP.out.1.loop))))
    . have hs1 : ¬ ((s : Int) - 1 < 0) := by omega
      by_cases hd12 : 12 < d
      . have hd2 : decide (12 < (d : Int)) = true := by simp; omega
        gi_wp2
        refine ⟨trivial, ?_⟩
        gi_wp2
        refine ⟨HSTOP.out.1.loop, ?_⟩
        exact Tf (by simp [Ct]; omega) (HSTOP.out.1.put _) (HK2.out.trans (HD.out.2.trans (HSTOP.out.2.trans (KF.put _ HSTOP.out.1.loop))))
      . have hd2 : decide (12 < (d : Int)) = false := by simp; omega
        gi_wp2_with fail
        obtain ⟨W3, hW3⟩ : ∃ W3, W2.setCell ⟨w.heap.size + 2, 0, none⟩ (.int .i64 ((s : Int) - 1)) = W3 := ⟨_, rfl⟩
        rw [hW3] at HD
        rw [hW3]
        have HD1 := HD.out.1
        refine ⟨trivial, (CallsIn.inRound _ (callsIn_wide.2 (Ag0 _ (.mk op2 n2 nm2 l2) W3 (HE.out.mono HD1.below)))).mono ?_⟩
        rintro e w6 ⟨rfl, hb6⟩
        have hJ6 := HD1.kept hb6
        have hK6 := HK2.out.trans (HD.out.2.trans (KF.below hb6))
        have hst6 := hJ6.stop
        have g1 : w6.cell? ⟨w.heap.size + 1, 0, none⟩ = _ := cell_of_row _ _ _ _ _ _ hJ6.err
        have g2 : w6.frozen? ⟨w.heap.size + 1, 0, none⟩ = _ := frozen_of_row _ _ _ _ _ hJ6.err
        simp only [List.getElem?_toArray, List.getElem?_cons_zero] at g1
        have HJ6 := Lib.hid hJ6
        have HK6 := Lib.hid hK6
        have HS6 := Lib.hid hst6
        clear hb6 hJ6 hK6 hst6 HD1 HD HSTOP hW3
        cases hp : Cc (.mk op2 n2 nm2 l2) with
        | false =>
          have HP := Lib.hid hp
          clear hp
          gi_wp2
          refine ⟨HS6.out.1.loop, ?_⟩
          exact Tf (by simp [Ct, HP.out]) (HS6.out.1.put _) (HK6.out.trans (HS6.out.2.trans (KF.put _ HS6.out.1.loop)))
        | true =>
          have HP := Lib.hid hp
          clear hp
          gi_wp2
          refine ⟨HJ6.out.loop, ?_⟩
          refine Ah5 (by simp [Ct, HP.out]; omega) ?_ (HK6.out.trans (KF.put _ HJ6.out.loop))
          have e : (((Ct s (.mk op2 n2 nm2 l2) d).1 : Nat) : Int) = (s : Int) - 1 := by simp only [Ct]; omega
          show ChkJ w _ (((Ct s (.mk op2 n2 nm2 l2) d).1 : Nat) : Int) _
          rw [e]
          exact HJ6.out.put _
  . intro s y d _ h
    simp only [Ct, Bool.and_eq_true, decide_eq_true_eq] at h
    exact ⟨by omega, fun _ _ => by omega⟩
  . have hvw := Aa9 60 1 (.mk op n nm args)
    obtain ⟨⟨k, c⟩, hr⟩ : ∃ r, Dt Ct 60 1 (.mk op n nm args) = r := ⟨_, rfl⟩
    rw [hr] at hvw
    rw [hr]
    clear hr hround HJ0 HX3
    rintro e W ⟨rfl, hj⟩
    cases c with
    | false =>
      have HC : Hid (Bp (.mk op n nm args) = 350) := Lib.hid (by unfold Bp Mu; rw [hvw]; rfl)
      have hX := (show ChkJx w (ρ .done (some .ret)) W from hj)
      have HJ := Lib.hid (hX.put (ρ .exhausted (some .ret)))
      refine .inr ⟨_, hX.loop, ?_⟩
      clear hvw hj hX
      gi_wp2
      have hm := HJ.out.mark
      have he := Cf (o' := .deferred none) HJ.out.err (show w.heap.size + 1 ≠ w.heap.size + 4 by omega)
      have hb := HJ.out.below.grown (grownBy_putObj' _ (w.heap.size + 4) (.deferred none)) HJ.out.below.size (fun b e => by cases e; omega)
      generalize W.putObj (w.heap.size + 5) (.loop (ρ .exhausted (some .ret))) = X at hm he hb |-
      have g1 : (X.putObj (w.heap.size + 4) (.deferred none)).cell? ⟨w.heap.size + 1, 0, none⟩ = _ := cell_of_row _ _ _ _ _ _ he
      simp only [List.getElem?_toArray, List.getElem?_cons_zero] at g1
      refine leave1 (k := w.heap.size + 4) (v := .int .i64 350) hm ?_ ⟨by rw [HC.out], hb⟩
      generalize X.putObj (w.heap.size + 4) (.deferred none) = Y at g1 |-
      simp [results, Tryz.results25, go_sem, g1]
    | true =>
      have HC : Hid (Bp (.mk op n nm args) = 0) := Lib.hid (by unfold Bp Mu; rw [hvw]; rfl)
      have hX := (show ChkJ w (ρ .ready none) (k : Int) W from hj)
      have hJ := hX.put (ρ .exhausted none)
      refine .inl ⟨hX.loop, ?_⟩
      have g1 : (W.putObj (w.heap.size + 5) (.loop (ρ .exhausted none))).cell? ⟨w.heap.size + 1, 0, none⟩ = _ := cell_of_row _ _ _ _ _ _ hJ.err
      have g2 : (W.putObj (w.heap.size + 5) (.loop (ρ .exhausted none))).frozen? ⟨w.heap.size + 1, 0, none⟩ = _ := frozen_of_row _ _ _ _ _ hJ.err
      simp only [List.getElem?_toArray, List.getElem?_cons_zero] at g1
      have HJ := Lib.hid hJ
      clear hvw hj hX hJ
      gi_wp2
      have hm := Ar HJ.out.mark (b' := w.heap.size + 1) (by omega) (.int .i64 0)
      have he := Boxed.set (.int .i64 0) HJ.out.err
      have hb := HJ.out.below.setCell (p := ⟨w.heap.size + 1, 0, none⟩) (Nat.le_succ _) (.int .i64 0)
      generalize (W.putObj (w.heap.size + 5) (.loop (ρ .exhausted none))).setCell ⟨w.heap.size + 1, 0, none⟩ (.int .i64 0) = X at hm he hb |-
      have he2 := Cf (o' := .deferred none) he (show w.heap.size + 1 ≠ w.heap.size + 4 by omega)
      have hb2 := hb.grown (grownBy_putObj' _ (w.heap.size + 4) (.deferred none)) hb.size (fun b e => by cases e; omega)
      have g1 : (X.putObj (w.heap.size + 4) (.deferred none)).cell? ⟨w.heap.size + 1, 0, none⟩ = _ := cell_of_row _ _ _ _ _ _ he2
      simp only [List.getElem?_toArray, List.getElem?_cons_zero] at g1
      refine leave1 (k := w.heap.size + 4) (v := .int .i64 0) hm ?_ ⟨by rw [HC.out], hb2⟩
      generalize X.putObj (w.heap.size + 4) (.deferred none) = Y at g1 |-
      simp [results, Tryz.results25, go_sem, g1]
end Go.Proofs.YtjagmmmcibdibaaGreatDoor
namespace Go.Proofs.YtjagmmmcibdibaaGreatDoor
open Go.RowKit
mutual
def Ex.small : Ex -> Prop
  | .mk _ _ s l => s.size <= 9223372036854775807 /\ Qu l
def Qu : List Ex -> Prop
  | [] => True
  | x :: l => x.small /\ Qu l
end
theorem Nq {x : Ex} (h : x.small) : x.name.size <= 9223372036854775807 /\ Qu x.args := by cases x; exact h
theorem Ma : ∀ {l : List Ex} {j : Nat} {x : Ex}, Qu l -> l[j]? = some x -> x.small
  | [], j, x, _, h => by simp at h
  | y :: l, 0, x, hs, h => by simp at h; subst h; exact hs.1
  | y :: l, j + 1, x, hs, h => by simp at h; exact Ma hs.2 h
theorem Iw {G : Nat -> Nat -> Prop} {w : World} {k b : Nat} : ∀ {l : List (List DV)} {o j : Nat} {e : List DV}, Bt G w k l b o -> l[j]? = some e -> Aq G w e b (o + j * k)
  | [], o, j, e, _, h => by simp at h
  | y :: l, o, 0, e, hr, h => by simp at h; subst h; simp only [Bt] at hr; simpa using hr.2.1
  | y :: l, o, j + 1, e, hr, h => by
    simp at h
    simp only [Bt] at hr
    have := Iw hr.2.2 h
    rwa [show o + k + j * k = o + (j + 1) * k from by rw [Nat.succ_mul]; omega] at this
theorem Aev (x : Ex) : exD x = [.v (.int .i64 x.op), .v (.int .i64 x.n), .v (.string x.name), .sl 4 (Ic x.args)] := by cases x; rfl
theorem Adz {G : Nat -> Nat -> Prop} {w : World} : ∀ (n : Nat) (l : List Ex) (u : Value), Us l <= n -> Qu l -> Cj G w (.sl 4 (Ic l)) u -> ArgsAt w u l := by
  intro n
  induction n with
  | zero =>
    intro l u hn hs hr
    have : l = [] := by
      cases l with
      | nil => rfl
      | cons x r => cases x; simp [Us, Ex.hgt] at hn
    subst this
    simp only [Cj] at hr
    obtain ⟨p, cap, rfl, h1, h2, _⟩ := hr
    exact .mk p cap [] (fun _ => .nilIface) (by simp) h2 (fun h => absurd rfl h) (by simp) (by simp)
  | succ n ih =>
    intro l u hn hs hr
    simp only [Cj] at hr
    obtain ⟨p, cap, rfl, h1, h2, h3⟩ := hr
    rw [Bb] at h1 |-
    by_cases hl : l = []
    . subst hl
      exact .mk p cap [] (fun _ => .nilIface) (by simp) h2 (fun h => absurd rfl h) (by simp) (by simp)
    obtain ⟨b, o, rfl, _, h5⟩ := h3 (by intro e; apply hl; have := Bb l; rw [e] at this; exact List.eq_nil_of_length_eq_zero this.symm)
    have key : ∀ (j : Nat) (x : Ex), l[j]? = some x -> w.cell? ⟨b, o + j * 4, none⟩ = some (.int .i64 x.op) /\ w.cell? ⟨b, o + j * 4 + 1, none⟩ = some (.int .i64 x.n) /\ w.cell? ⟨b, o + j * 4 + 2, none⟩ = some (.string x.name) /\
        ∃ s, w.cell? ⟨b, o + j * 4 + 3, none⟩ = some s /\ Cj G w (.sl 4 (Ic x.args)) s := by
      intro j x hx
      have h6 := Iw (j := j) (e := exD x) h5 (by rw [Hn]; simp [hx])
      rw [Aev] at h6
      simp only [Aq] at h6
      obtain ⟨⟨u0, c0, r0⟩, ⟨u1, c1, r1⟩, ⟨u2, c2, r2⟩, ⟨u3, c3, r3⟩, _⟩ := h6
      simp only [Cj] at r0 r1 r2
      rw [r0.1] at c0; rw [r1.1] at c1; rw [r2.1] at c2
      exact ⟨c0, c1, c2, u3, c3, r3⟩
    refine .mk _ cap l (fun j => (w.cell? ⟨b, o + j * 4 + 3, none⟩).getD .nilIface) h1 h2 (fun _ => ⟨b, o, rfl, fun j x hx => ?_⟩) (fun j x hx => (Nq (Ma hs hx)).1) (fun j x hx => ?_)
    . obtain ⟨k0, k1, k2, s, k3, _⟩ := key j x hx
      exact ⟨k0, k1, k2, by simp [k3]⟩
    . obtain ⟨_, _, _, s, k3, k4⟩ := key j x hx
      rw [k3]
      refine ih x.args s ?_ (Nq (Ma hs hx)).2 k4
      have := Rn (List.mem_of_getElem? hx)
      cases x; simp only [Ex.hgt] at this; simp only [Ex.args]; omega
theorem exAt_of {K : Kx} {w : World} {x : Ex} {u : Value} (hs : x.small) (h : Rep K w (exP x) u) : Ade w u x := by
  simp only [exP, Rep, Ap] at h
  obtain ⟨cs, rfl, u0, us0, rfl, r0, u1, us1, rfl, r1, u2, us2, rfl, r2, u3, us3, rfl, r3, rfl⟩ := h
  simp only [Rep, Cj] at r0 r1 r2
  rw [r0.1, r1.1, r2.1]
  exact ⟨u3, rfl, (Nq hs).1, Adz _ x.args u3 (Nat.le_refl _) (Nq hs).2 (by simpa only [Rep] using r3)⟩
theorem Ea (x : Ex) (hs : x.small) : Aw 25 [exP x] ⟨[], []⟩ (.ret (An (Bp x))) ⟨[], []⟩ := by
  refine Lt Tryz.func25 rfl rfl rfl fun K w vs _ hA => ?_
  simp only [Ap] at hA
  obtain ⟨u, us, rfl, hr, rfl⟩ := hA
  exact Add u x w (exAt_of hs hr)
end Go.Proofs.YtjagmmmcibdibaaGreatDoor
namespace Go.Proofs.YtjagmmmcibdibaaGreatDoor
open Go.RowKit
theorem Dy {f : Nat} {args : List PV} {S S' : PS} {r r' : PV} (h : Aw f args S (.ret r') S') (hc : Coe S' r' r) : Aw f args S (.ret r) S' :=
  ⟨h.1, fun K w vs hI hA => (h.2 K w vs hI hA).mono fun _ w' ⟨K', h1, h2, v, he, hr⟩ => ⟨K', h1, h2, v, he, hc K' w' v h2 hr⟩⟩
theorem Kk {f : Nat} {args : List PV} {S S' : PS} {r : PV} (n m : Nat) (h : Aw f args S (.ret r) S') (hn : S.boxes.length <= n) (hm : S.toks.length <= m) (hall : (S'.boxes.take n).all (fun c => PV.ltL n m c) = true) (hr : r.lt n m = true) : Aw f args S (.ret r) (S'.cut n m) :=
  ⟨h.1, fun K w vs hI hA => (h.2 K w vs hI hA).mono fun _ _ ⟨K', h1, h2, v, he, hv⟩ => ⟨K'.cut n m, C8 hI h1 hn hm, h2.cut hall, v, he, Rep.cut _ _ hr hv⟩⟩
theorem Eb {S : PS} {l l' : List PV} (h : F7 S l l') : Coe S (.agg l) (.agg l') := fun K w u hI hr => by
  simp only [Rep] at hr |-
  obtain ⟨cs, h1, h2⟩ := hr
  exact ⟨cs, h1, F7.rep hI h h2⟩
theorem Hl {S : PS} {l l' : List PV} (h : F7 S l l') : Coe S (.tup l) (.tup l') := fun K w u hI hr => by
  simp only [Rep] at hr |-
  obtain ⟨cs, h1, h2⟩ := hr
  exact ⟨cs, h1, F7.rep hI h h2⟩
theorem Er {S : PS} {k : Nat} : Coe S (.d (.v (.slice none 0 0))) (.d (.sl k [])) := Ki rfl
end Go.Proofs.YtjagmmmcibdibaaGreatDoor
namespace Go.Proofs.YtjagmmmcibdibaaGreatDoor
open Go.RowKit
inductive DefP where
  | mark
  | call (g : Nat) (caps : List PV)
def Nx (b0 : Nat) (K : Kx) (w : World) (k : Nat) : Prop := b0 <= k /\ w.heap[k]? = some (.deferred (some [])) /\ k ∉ K.β /\ ∀ (t : Nat) (c : TokC) (lo : Nat), K.τ[t]? = some c -> TokC.blk c ≠ some (k, lo)
theorem Nx.step {b0 k : Nat} {K K' : Kx} {w w' : World} (h : Nx b0 K w k) (hs : Step K K' w w') : Nx b0 K' w' k := by
  obtain ⟨h0, h1, h2, h3⟩ := h
  have hlt : k < w.heap.size := (Array.getElem?_eq_some_iff.1 h1).1
  refine ⟨h0, (hs.blocks k hlt h2 h3).trans h1, fun hm => ?_, fun t c lo ht hc => ?_⟩
  . rcases hs.βnew _ hm with h4 | h4
    . exact h2 h4
    . omega
  . rcases hs.τnew t c _ lo ht hc with h4 | ⟨t0, c0, lo0, h4, h5, _⟩
    . omega
    . exact h3 t0 c0 lo0 h4 h5
def D8 (b0 : Nat) (K : Kx) (w : World) : List DefP -> List Deferred -> Prop
  | [], ds => ds = []
  | .mark :: D, ds => ∃ k r, ds = { target := .collected k, args := #[] } :: r /\ Nx b0 K w k /\ (∀ d ∈ r, d.target ≠ .collected k) /\ D8 b0 K w D r
  | .call g caps :: D, ds => ∃ (cs : List Value) (r : List Deferred), ds = { target := .fn (.func g) cs.toArray, args := #[] } :: r /\ Ap K w caps cs /\ D8 b0 K w D r
theorem D8.step {b0 : Nat} {K K' : Kx} {w w' : World} (hs : Step K K' w w') : ∀ {D : List DefP} {ds : List Deferred}, D8 b0 K w D ds -> D8 b0 K' w' D ds
  | [], _, h => h
  | .mark :: _, _, ⟨k, r, h1, h2, h3, h4⟩ => ⟨k, r, h1, h2.step hs, h3, h4.step hs⟩
  | .call _ _ :: _, _, ⟨cs, r, h1, h2, h3⟩ => ⟨cs, r, h1, Ap.step hs _ _ h2, h3.step hs⟩
def QD (b0 : Nat) (K : Kx) (w : World) (N : Nat) (Q : Exit -> (Nat -> PV) -> PS -> List DefP -> Prop) (e : Exit) (a' : Act) (w' : World) : Prop :=
  ∃ K' F' S' D', Step K K' w w' /\ Inv K' S' w' /\ FrameRep K' w' N F' a' /\ D8 b0 K' w' D' a'.defers /\ Q e F' S' D'
structure PD (P : Program) (N : Nat) (c : Code) (Q : Exit -> (Nat -> PV) -> PS -> List DefP -> Prop) (F : Nat -> PV) (S : PS) (D : List DefP) : Prop where
  run : ∀ (b0 : Nat) (K : Kx) (w : World) (a : Act), b0 <= w.heap.size -> Inv K S w -> FrameRep K w N F a -> D8 b0 K w D a.defers -> c.wp P (QD b0 K w N Q) a w
def thenD (next : (Nat -> PV) -> PS -> List DefP -> Prop) (Q : Exit -> (Nat -> PV) -> PS -> List DefP -> Prop) : Exit -> (Nat -> PV) -> PS -> List DefP -> Prop
  | .normal, F, S, D => next F S D
  | e, F, S, D => Q e F S D
def blockD (id : Nat) (Q : Exit -> (Nat -> PV) -> PS -> List DefP -> Prop) : Exit -> (Nat -> PV) -> PS -> List DefP -> Prop
  | .exit i, F, S, D => bif Nat.beq i id then Q .normal F S D else Q (.exit i) F S D
  | e, F, S, D => Q e F S D
section
variable {P : Program} {N : Nat} {Q : Exit -> (Nat -> PV) -> PS -> List DefP -> Prop} {F : Nat -> PV} {S : PS} {D : List DefP}
theorem QD.step {b0 : Nat} {K K' : Kx} {w w' : World} {S0 : PS} (hI : Inv K S0 w) (hs : Step K K' w w') {e : Exit} {a : Act} {w2 : World} (h : QD b0 K' w' N Q e a w2) : QD b0 K w N Q e a w2 := by
  obtain ⟨K2, F2, S2, D2, h1, h2, h3, h4, h5⟩ := h
  exact ⟨K2, F2, S2, D2, hs.trans hI h1, h2, h3, h4, h5⟩
theorem Bj {c : Code} (h : PW P N c (fun e F S => Q e F S D) F S) : PD P N c Q F S D := by
  refine ⟨fun b0 K w a _ hI hF hD => wp_mono (h.run0 K w a hI hF) fun e a' w' hq => ?_⟩
  obtain ⟨K', F', S', h1, h2, h3, h4, h5⟩ := hq
  exact ⟨K', F', S', D, h1, h2, h3, by rw [h4]; exact hD.step h1, h5⟩
theorem Yd {c : Code} (L : List (Nat × PV)) (h : Tq L F) (k : PD P N c Q (fr L) S D) : PD P N c Q F S D := ⟨fun b0 K w a hb hI hF hD => k.run b0 K w a hb hI (Mm h hF) hD⟩
theorem Av {x y : Code} (h : PD P N x (thenD (PD P N y Q) Q) F S D) : PD P N (.seq x y) Q F S D := by
  refine ⟨fun b0 K w a hb hI hF hD => ?_⟩
  refine wp_seq (wp_mono (h.run b0 K w a hb hI hF hD) fun e a' w' hq => ?_)
  obtain ⟨K', F', S', D', h1, h2, h3, h4, h5⟩ := hq
  cases e with
  | normal => exact wp_mono (PD.run h5 b0 K' w' a' (Nat.le_trans hb h1.size) h2 h3 h4) fun e a2 w2 hq => hq.step hI h1
  | ret => exact ⟨K', F', S', D', h1, h2, h3, h4, h5⟩
  | exit id => exact ⟨K', F', S', D', h1, h2, h3, h4, h5⟩
  | goto l => exact ⟨K', F', S', D', h1, h2, h3, h4, h5⟩
  | panic c => exact ⟨K', F', S', D', h1, h2, h3, h4, h5⟩
  | outgrown => exact ⟨K', F', S', D', h1, h2, h3, h4, h5⟩
theorem Sc {id : Nat} {c : Code} (h : PD P N c (blockD id Q) F S D) : PD P N (.block id c) Q F S D := by
  refine ⟨fun b0 K w a hb hI hF hD => ?_⟩
  refine wp_block (wp_mono (h.run b0 K w a hb hI hF hD) fun e a' w' hq => ?_)
  obtain ⟨K', F', S', D', h1, h2, h3, h4, h5⟩ := hq
  cases e with
  | exit i =>
    simp only [Exit.inBlock]
    simp only [blockD] at h5
    split
    . rename_i e; subst e; rw [show Nat.beq i i = true from by simp] at h5; exact ⟨K', F', S', D', h1, h2, h3, h4, h5⟩
    . rename_i e
      cases hb : Nat.beq i id with
      | true => exact absurd (Nat.eq_of_beq_eq_true hb) e
      | false => rw [hb] at h5; exact ⟨K', F', S', D', h1, h2, h3, h4, h5⟩
  | normal => exact ⟨K', F', S', D', h1, h2, h3, h4, h5⟩
  | ret => exact ⟨K', F', S', D', h1, h2, h3, h4, h5⟩
  | goto l => exact ⟨K', F', S', D', h1, h2, h3, h4, h5⟩
  | panic c => exact ⟨K', F', S', D', h1, h2, h3, h4, h5⟩
  | outgrown => exact ⟨K', F', S', D', h1, h2, h3, h4, h5⟩
theorem K3 {id : Nat} {o1 o2 : Oper} {g : Nat} {cs : Array Operand} {t : Nat} {ats : Array TypeId} (h1 : o1.op = .makeFunc (.func g) #[] cs) (h2 : o2.op = .defer { callee := .value (.tmp t), args := #[], argTypes := ats }) (hd : o1.dst = some t) (hd2 : o2.dst = none) (hg : o1.guard = none) (hg2 : o2.guard = none) (ht : t < N)
    (h : Q .normal (Cd N (some t) (.fn g (cs.toList.map (evP F))) F) S (.call g (cs.toList.map (evP F)) :: D)) : PD P N (.region id #[o1, o2] false) Q F S D := by
  refine ⟨fun b0 K w a hb hI hF hD => ?_⟩
  refine wp_region ?_
  have e1 : ∀ (Y : Array Value), Region.wanted o1 (yielded #[o1, o2] Y) = true := fun Y => by unfold Region.wanted; rw [hg]
  have e2 : ∀ (Y : Array Value), Region.wanted o2 (yielded #[o1, o2] Y) = true := fun Y => by unfold Region.wanted; rw [hg2]
  show wpOps P #[o1, o2] _ [0, 1] a w
  simp only [wpOps, List.getElem?_toArray, List.getElem?_cons_zero, List.getElem?_cons_succ, e1, e2, if_true]
  have hr : Rep K w (.fn g (cs.toList.map (evP F))) (.func (.func g) #[] (cs.map a.eval)) := by
    simp only [Rep]
    refine ⟨cs.toList.map a.eval, by congr 1; apply Array.ext'; simp, It cs.toList fun x _ => hF.ev x⟩
  have s1 := Step.refl K w
  refine .inl ?_
  unfold Oper.wp
  rw [show (execOp a.eval o1).run P w = .ok (.value (.func (.func g) #[] (cs.map a.eval))) w from by simp [execOp, h1, Instr.makeFunc], Oper.upon_value]
  refine .inl ?_
  have hF' := hF.put (dst := some t) s1 hr
  rw [hd]
  obtain ⟨us, hus0, hus⟩ : ∃ us : List Value, cs.map a.eval = us.toArray /\ Ap K w (cs.toList.map (evP F)) us := ⟨cs.toList.map a.eval, by apply Array.ext'; simp, It cs.toList fun x _ => hF.ev x⟩
  rw [hus0] at hF' |-
  have hI' := hI
  have hv : (a.put (some t) (.func (.func g) #[] us.toArray)).eval (.tmp t) = .func (.func g) #[] us.toArray := by
    have h6 := Nm (a := a) (dst := some t) (v := .func (.func g) #[] us.toArray) (t := t) hF.size
    simpa [Act.eval, ht] using h6
  have hrun : (execOp (a.put (some t) (.func (.func g) #[] us.toArray)).eval o2).run P w = .ok (.defer { target := .fn (.func g) us.toArray, args := #[] }) w := by
    simp only [execOp, h2, resolve, hv, Deferred.ofValue, Sem.run_bind, Sem.run_pure, Result.andThen_ok, List.map_toArray, List.map_nil, Array.append_empty]
  rw [hrun, Oper.upon_defer, hd2]
  refine ⟨K, Cd N (some t) (.fn g (cs.toList.map (evP F))) F, S, .call g (cs.toList.map (evP F)) :: D, s1, hI', ⟨hF'.size, hF'.rep⟩, ?_, h⟩
  refine ⟨us, a.defers, ?_, hus, hD.step s1⟩
  show _ :: (a.put (some t) _).defers = _
  rw [D5]
end
theorem I5 {w : World} {k : Nat} {o o' : Obj} (h : w.heap[k]? = some o) (h1 : o.isCells = false) (h2 : o'.isCells = false) (a : Addr) : (w.putObj k o').cell? a = w.cell? a := by
  by_cases e : a.block = k
  . have hlt := (Array.getElem?_eq_some_iff.1 h).1
    unfold World.cell?
    rw [e, World.putObj_heap_same hlt, h]
    have key : ∀ x : Obj, x.isCells = false -> (match some x with | some (Obj.cells c _ _) => if a.spot.isSome = true then none else c[a.off]? | _ => (none : Option Value)) = none := fun x hx => by
      cases x <;> first | rfl | (simp [Obj.isCells] at hx)
    exact (key o' h2).trans (key o h1).symm
  . exact World.cell?_of_block (World.putObj_heap_other e)
theorem Kq {K : Kx} {w : World} {k b hi : Nat} {o : Obj} (h : K.good w b hi) : K.good (w.putObj k o) b hi :=
  ⟨by rw [World.putObj_size]; exact h.1, h.2⟩
section
variable {K : Kx} {w : World} {k : Nat} {o o' : Obj} (h : w.heap[k]? = some o) (h1 : o.isCells = false) (h2 : o'.isCells = false)
include h h1 h2
theorem Cj.put {c : DV} {u : Value} (hr : Cj (K.good w) w c u) : Cj (K.good (w.putObj k o')) (w.putObj k o') c u := Cj.mono (fun _ _ hg => ⟨Kq hg, fun _ _ => I5 h h1 h2 _⟩) c u hr
mutual
theorem Rep.putO : ∀ (p : PV) (u : Value), Rep K w p u -> Rep K (w.putObj k o') p u
  | .any, u, _ => by simp [Rep]
  | .un, u, hr => by simpa only [Rep] using hr
  | .d c, u, hr => by simp only [Rep] at hr |-; exact Cj.put h h1 h2 hr
  | .agg l, u, hr => by
    simp only [Rep] at hr |-
    obtain ⟨cs, e1, e2⟩ := hr
    exact ⟨cs, e1, Ap.putO l cs e2⟩
  | .tup l, u, hr => by
    simp only [Rep] at hr |-
    obtain ⟨cs, e1, e2⟩ := hr
    exact ⟨cs, e1, Ap.putO l cs e2⟩
  | .ptr id off, u, hr => by simpa only [Rep] using hr
  | .ep l, u, hr => by
    simp only [Rep] at hr |-
    obtain ⟨b, o1, e1, e2, e3⟩ := hr
    exact ⟨b, o1, e1, Kq e2, Aq.mono (fun _ _ hg => ⟨Kq hg, fun _ _ => I5 h h1 h2 _⟩) l b o1 (fun _ _ => I5 h h1 h2 _) e3⟩
  | .hd t n, u, hr => by simpa only [Rep] using hr
  | .bsl k' id off n cap, u, hr => by simpa only [Rep] using hr
  | .fn f caps, u, hr => by
    simp only [Rep] at hr |-
    obtain ⟨cs, e1, e2⟩ := hr
    exact ⟨cs, e1, Ap.putO caps cs e2⟩
theorem Ap.putO : ∀ (l : List PV) (us : List Value), Ap K w l us -> Ap K (w.putObj k o') l us
  | [], us, hr => by simpa only [Ap] using hr
  | p :: ps, us, hr => by
    simp only [Ap] at hr |-
    obtain ⟨u, us', rfl, e1, e2⟩ := hr
    exact ⟨u, us', rfl, Rep.putO p u e1, Ap.putO ps us' e2⟩
end
theorem Rm {b : Nat} {C : Array Value} {ty : TypeId} {f : Nat × Nat} (hb : w.heap[b]? = some (.cells C ty f)) : (w.putObj k o').heap[b]? = some (.cells C ty f) := by
  refine (World.putObj_heap_other ?_).trans hb
  rintro rfl
  rw [h] at hb; cases hb; cases h1
theorem Inv.putO {S : PS} (hI : Inv K S w) : Inv K S (w.putObj k o') where
  lenβ := hI.lenβ
  lenτ := hI.lenτ
  box i b c hb hc := by
    obtain ⟨C, ty, e1, e2, e3⟩ := hI.box i b c hb hc
    exact ⟨C, ty, Rm h h1 h2 e1, Ap.putO h h1 h2 _ _ e2, e3⟩
  nodup := hI.nodup
  βM := hI.βM
  tok t T c hT hc := by
    obtain ⟨e1, u, e2, e3⟩ := hI.tok t T c hT hc
    refine ⟨e1, u, e2, ?_⟩
    rcases e3 with e3 | ⟨g, cap, cur, e3, e4, e5, e6, e7, e8, e9, e10⟩
    . exact .inl e3
    . exact .inr ⟨g, cap, cur, e3, e4, Rm h h1 h2 e5, e6, e7, e8, Kq e9, Bt.mono (fun _ _ hg => ⟨Kq hg, fun _ _ => I5 h h1 h2 _⟩) T.l g 0 (fun _ _ => I5 h h1 h2 _) e10⟩
  tokF := hI.tokF
  tokI := hI.tokI
  tokH := hI.tokH
  Mlt b hb := by rw [World.putObj_size]; exact hI.Mlt b hb
  Tlt b lo hb := by rw [World.putObj_size]; exact hI.Tlt b lo hb
  fz p hp := by
    obtain ⟨⟨ty, r, e1⟩, e2⟩ := hI.fz p hp
    exact ⟨⟨ty, r, Rm h h1 h2 e1⟩, e2⟩
theorem FrameRep.putO {N : Nat} {F : Nat -> PV} {a : Act} (hF : FrameRep K w N F a) : FrameRep K (w.putObj k o') N F a := ⟨hF.size, fun t => Rep.putO h h1 h2 _ _ (hF.rep t)⟩
theorem Step.putO {K0 : Kx} {w0 : World} (hs : Step K0 K w0 w) (hk : w0.heap.size <= k) : Step K0 K w0 (w.putObj k o') where
  os := hs.os
  tape := hs.tape
  output := hs.output
  size := by rw [World.putObj_size]; exact hs.size
  β := hs.β
  βnew := hs.βnew
  M := hs.M
  T := hs.T
  τ := hs.τ
  τnew := hs.τnew
  blocks b hb h3 h4 := (World.putObj_heap_other (by omega)).trans (hs.blocks b hb h3 h4)
  cells t c g lo i ht hc hg hi := (I5 h h1 h2 _).trans (hs.cells t c g lo i ht hc hg hi)
end
theorem Nx.putO {b0 : Nat} {K : Kx} {w : World} {k k' : Nat} {o' : Obj} (h : Nx b0 K w k') (hne : k' ≠ k) : Nx b0 K (w.putObj k o') k' := ⟨h.1, (World.putObj_heap_other hne).trans h.2.1, h.2.2⟩
theorem D8.putO {b0 : Nat} {K : Kx} {w : World} {k : Nat} {o o' : Obj} (h : w.heap[k]? = some o) (h1 : o.isCells = false) (h2 : o'.isCells = false) : ∀ {D : List DefP} {ds : List Deferred}, (∀ d ∈ ds, d.target ≠ .collected k) -> D8 b0 K w D ds -> D8 b0 K (w.putObj k o') D ds
  | [], _, _, hd => hd
  | .mark :: D, _, hn, ⟨k', r, e1, e2, e3, e4⟩ => by
    subst e1
    refine ⟨k', r, rfl, e2.putO fun e => ?_, e3, e4.putO h h1 h2 fun d hd => hn d (List.mem_cons_of_mem _ hd)⟩
    subst e
    exact hn _ List.mem_cons_self rfl
  | .call _ _ :: D, _, hn, ⟨cs, r, e1, e2, e3⟩ => by
    subst e1
    exact ⟨cs, r, rfl, Ap.putO h h1 h2 _ _ e2, e3.putO h h1 h2 fun d hd => hn d (List.mem_cons_of_mem _ hd)⟩
def Pq : Option Value -> FrameMode
  | none => .returning
  | some c => .panicking [{ v := c, recovered := false }]
def EvD (P : Program) (g : Nat) (caps : List PV) (S : PS) (u : Option Value) (S' : PS) : Prop :=
  ∀ (n : Nat) (K : Kx) (w : World) (vs : List Value), Inv K S w -> Ap K w caps vs -> CallsDIn Fence.wide n P g vs.toArray (Pq u) w fun e u' w' => (∃ v, e = .returned v) /\ settle u' = .returning /\ ∃ K', Step K K' w w' /\ Inv K' S' w'
theorem Ke {F : Fence} {n : Nat} {P : Program} {f : FuncId} {args : Array Value} {u : FrameMode} {w : World} {R R' : Ending -> FrameMode -> World -> Prop} (h : CallsDIn F n P f args u w R) (hR : ∀ e u w, R e u w -> R' e u w) : CallsDIn F n P f args u w R' :=
  ⟨h.1, fun c cs hm hr => let ⟨e, u', w', fr, h1, h2⟩ := h.2 c cs hm hr; ⟨e, u', w', fr, hR _ _ _ h1, h2⟩⟩
def Tr (P : Program) (fn : Func) (out : POut) (S' : PS) (F : Nat -> PV) : List DefP -> Option Value -> PS -> Prop
  | [], none, S1 => ∃ r, out = .ret r /\ Q8 P fn (.ret r) S' .ret F S1
  | [], some c, S1 => out = .panic c /\ Q8 P fn (.panic c) S' (.panic [{ v := c, recovered := false }]) F S1
  | .mark :: D, u, S1 => Tr P fn out S' F D u S1
  | .call g caps :: D, u, S1 => (∃ f, P.funcs[g]? = some f /\ (f.name == "runtime.NumGoroutine") = false /\ f.body.isSome = true) /\ ∃ S2, EvD P g caps S1 u S2 /\ Tr P fn out S' F D none S2
def bodyD (P : Program) (fn : Func) (out : POut) (S' : PS) (e : Exit) (F : Nat -> PV) (S1 : PS) (D : List DefP) : Prop :=
  ∃ u, ((u = none /\ (e = .normal \/ e = .ret)) \/ ∃ c, u = some c /\ e = .panic [{ v := c, recovered := false }]) /\ Tr P fn out S' F D u S1
theorem Og {P : Program} {fn : Func} {out : POut} {S0 S' : PS} {F : Nat -> PV} {K0 : Kx} {w0 : World} {a : Act} (hI0 : Inv K0 S0 w0) (hS : S'.boxes.length = S0.boxes.length) (hT : S0.toks.length <= S'.toks.length)
    (hent : ∀ (g : Nat) (f : Func), P.funcs[g]? = some f -> (f.name == "runtime.NumGoroutine") = false -> f.body.isSome = true -> ∀ args w, (callFunc g args).run P w = .ok (.enter g args) w) :
    ∀ (D : List DefP) (u : Option Value) (S1 : PS) (K1 : Kx) (w1 : World) (ds : List Deferred), Step K0 K1 w0 w1 -> Inv K1 S1 w1 -> FrameRep K1 w1 fn.ntmps F a -> D8 w0.heap.size K1 w1 D ds -> Tr P fn out S' F D u S1 ->
      LeavesInM Fence.wide 6 P fn a.tmps (fun e w' => ∃ K', Step K0 K' w0 w' /\ Inv K' S' w' /\ Mi K' w' out e) ds (Pq u) w1
  | [], none, S1, K1, w1, ds, hs, hI, hF, hD, h => by
    obtain rfl : ds = [] := hD
    obtain ⟨r, rfl, h5, h6, _, ps, h8, rfl, h9⟩ := h
    have hcut := hI.cut (n := S'.boxes.length) (m := S'.toks.length) h5
    rw [h6] at hcut
    obtain ⟨v, h10, h11⟩ := Ew hI hF h8
    exact ⟨v, h10, _, C8 hI0 hs (by omega) hT, hcut, v, rfl, Rep.cut _ _ h9 h11⟩
  | [], some c, S1, K1, w1, ds, hs, hI, hF, hD, h => by
    obtain rfl : ds = [] := hD
    obtain ⟨rfl, h5, h6, _⟩ := h
    have hcut := hI.cut (n := S'.boxes.length) (m := S'.toks.length) h5
    rw [h6] at hcut
    exact ⟨_, C8 hI0 hs (by omega) hT, hcut, rfl⟩
  | .mark :: D, u, S1, K1, w1, ds, hs, hI, hF, hD, h => by
    obtain ⟨k, r, rfl, hm, hne, hD⟩ := hD
    refine ⟨by cases u <;> simp [Pq], .inl ⟨k, _, rfl, run_takeDeferred hm.2.1, ?_⟩⟩
    exact Og hI0 hS hT hent D u S1 K1 _ r (hs.putO hm.2.1 rfl rfl hm.1) (hI.putO hm.2.1 rfl rfl) (hF.putO hm.2.1 rfl rfl) (hD.putO hm.2.1 rfl rfl hne) h
  | .call g caps :: D, u, S1, K1, w1, ds, hs, hI, hF, hD, h => by
    obtain ⟨cs, r, rfl, hc, hD⟩ := hD
    obtain ⟨⟨f, hf1, hf2, hf3⟩, S2, hE, h⟩ := h
    refine ⟨by cases u <;> simp [Pq], .inr ⟨by simp [Fence.wide], .func g, cs.toArray, g, cs.toArray, rfl, ?_, fun _ _ => trivial, ?_⟩⟩
    . simp only [invoke, Array.empty_append]
      exact hent g f hf1 hf2 hf3 _ _
    . refine Ke (hE (6 - 1) K1 w1 cs hI hc) ?_
      rintro e u' w' ⟨⟨v, rfl⟩, hset, K2, hs2, hI2⟩
      show LeavesInM _ _ _ _ _ _ r (settle u') w'
      rw [hset]
      exact Og hI0 hS hT hent D none S2 K2 w' r (hs.trans hI0 hs2) hI2 ⟨hF.size, fun t => Rep.step hs2 _ _ (hF.rep t)⟩ (hD.step hs2) h
theorem Ec {P : Program} {f : Nat} {fn : Func} {c : Code} {args : List PV} {S S' : PS} {out : POut} (hent : ∀ (g : Nat) (f : Func), P.funcs[g]? = some f -> (f.name == "runtime.NumGoroutine") = false -> f.body.isSome = true -> ∀ args w, (callFunc g args).run P w = .ok (.enter g args) w)
    (hf : P.funcs[f]? = some fn) (hb : fn.body = some c) (hn : args.length <= fn.ntmps) (hS : S'.boxes.length = S.boxes.length) (hT : S.toks.length <= S'.toks.length) (h : PD P fn.ntmps c (bodyD P fn out S') (Hj args) S []) : EvC P f args S out S' := by
  intro K w vs hI hA
  have hl := hA.length
  refine (callsIn_wide (n := 6)).1 (callsIn_of_wp_marks hf hb trivial (wpIn_wide.2 (wp_mono (h.run w.heap.size K w { tmps := vs.toArray ++ Array.replicate (fn.ntmps - vs.toArray.size) undef, defers := [] } (Nat.le_refl _) hI ⟨by simp; omega, fun t => ?_⟩ rfl) ?_)) rfl)
  . have := D9 args vs (fn.ntmps - vs.toArray.size) t hA
    rw [Array.getD_eq_getD_getElem?]
    rw [List.getD_eq_getElem?_getD] at this
    rw [<- Array.getElem?_toList]
    simpa using this
  . intro e a' w' hq
    obtain ⟨K', F', S1, D', h1, h2, h3, h4, u, hu, hL⟩ := hq
    have key := Og (out := out) hI hS hT hent D' u S1 K' w' a'.defers h1 h2 h3 h4 hL
    rcases hu with ⟨rfl, rfl | rfl⟩ | ⟨c, rfl, rfl⟩
    . exact key
    . exact key
    . exact key
end Go.Proofs.YtjagmmmcibdibaaGreatDoor
namespace Go.Proofs.YtjagmmmcibdibaaGreatDoor
open Go.RowKit
def O4 : Op -> Bool
  | .move _ | .assign _ | .alloc _ | .load .. | .store .. | .extract .. | .typeAssert .. => true
  | _ => false
theorem run_v {P : Program} {m : Sem Value} {w w' : World} {x : Next} (h : (do pure (.value (<- m)) : Sem Next).run P w = .ok x w') : ∃ v, x = .value v := by
  rw [Sem.run_bind] at h
  cases e : m.run P w with
  | ok v w1 => rw [e] at h; simp only [Result.andThen_ok, Sem.run_pure] at h; cases h; exact ⟨_, rfl⟩
  | _ => rw [e] at h; simp [Result.andThen] at h
theorem run_u {P : Program} {m : Sem Unit} {w w' : World} {x : Next} (h : (do m; pure .skip : Sem Next).run P w = .ok x w') : x = .skip := by
  rw [Sem.run_bind] at h
  cases e : m.run P w with
  | ok v w1 => rw [e] at h; simp only [Result.andThen_ok, Sem.run_pure] at h; cases h; rfl
  | _ => rw [e] at h; simp [Result.andThen] at h
theorem Acu {P : Program} {o : Oper} {ρ : Operand -> Value} {w w' : World} {x : Next} (hs : O4 o.op = true) (h : (execOp ρ o).run P w = .ok x w') : (∃ v, x = .value v) \/ x = .skip := by
  unfold execOp at h
  unfold O4 at hs
  split at hs
  . rename_i e; rw [e] at h; simp only [Sem.run_pure] at h; cases h; exact .inl ⟨_, rfl⟩
  . rename_i e; rw [e] at h; simp only [Sem.run_pure] at h; cases h; exact .inl ⟨_, rfl⟩
  . rename_i e; rw [e] at h; exact .inl (run_v h)
  . rename_i e; rw [e] at h; exact .inl (run_v h)
  . rename_i e; rw [e] at h; exact .inr (run_u h)
  . rename_i e; rw [e] at h; exact .inl (run_v h)
  . rename_i e; rw [e] at h; exact .inl (run_v h)
  . cases hs
theorem O5 {P : Program} {ops : Array Oper} {o : Oper} {i n : Nat} {l : List Nat} {Q : Exit -> Act -> List Frame -> World -> Prop} {a : Act} {cs : List Frame} {w : World} (ho : ops[i]? = some o) (hs : O4 o.op = true) (hw : Region.wanted o (yielded ops a.tmps) = true)
    (h : o.wpIn (fen none) 0 P a w (fun a' w' => wpOpsSIn Fence.wide n P ops Q l a' cs w') (fun e a' w' => Q e a' cs w')) : wpOpsSIn Fence.wide n P ops Q (i :: l) a cs w := by
  simp only [wpOpsSIn, ho, hw, if_true]
  refine ⟨fun _ _ => trivial, ?_⟩
  have h := h.2
  rw [show o.semAt (fen none).round a.eval = execOp a.eval o from rfl] at h
  cases e : (execOp a.eval o).run P w with
  | ok x w' =>
    rw [e] at h
    rcases Acu hs e with ⟨v, rfl⟩ | rfl
    . exact h
    . exact h
  | halt s w' =>
    rw [e] at h
    cases s <;> first | exact h | exact h.elim
theorem walkS {P : Program} {N n : Nat} {ops : Array Oper} {Q : Exit -> Act -> List Frame -> World -> Prop} {cs : List Frame} {rest : List Oper} {F : Nat -> PV} {S : PS} {res : WRes} (h : Walk P N ops rest F S res) :
    ∀ (k : Nat), (∀ j, rest[j]? = ops[k + j]?) -> rest.all (fun o => O4 o.op) = true -> ∀ (K0 K : Kx) (S0 : PS) (w0 w : World) (a : Act), Inv K0 S0 w0 -> Step K0 K w0 w -> Inv K S w -> FrameRep K w N F a -> Aem N K0 w0 a.defers (fun e a' w' => Q e a' cs w') res -> wpOpsSIn Fence.wide n P ops Q (List.range' k rest.length) a cs w := by
  induction h with
  | nil F S => intro k _ _ K0 K S0 w0 w a _ hs hI hF hE; exact hE K a w hs hI hF rfl
  | @skip o rest F S res hg _ ih =>
    intro k hk hsim K0 K S0 w0 w a hI0 hs hI hF hE
    have hw := E6 hg (K := K) (w := w) (a := a) (fun _ _ d _ _ => hF.rep d)
    have ho : ops[k]? = some o := by have := hk 0; simpa using this.symm
    simp only [List.all_cons, Bool.and_eq_true] at hsim
    simp only [List.length_cons, List.range'_succ, wpOpsSIn, ho]
    refine ⟨fun _ _ => trivial, ?_⟩
    rw [if_neg (by rw [hw]; simp)]
    exact ih (k + 1) (fun j => by have := hk (j + 1); simp only [List.getElem?_cons_succ] at this; rw [this]; congr 1; omega) hsim.2 K0 K S0 w0 w _ hI0 hs hI (hF.put (Step.refl K w) (by simp [Rep])) (by rw [D5]; exact hE)
  | @op o rest F S r S' res hg hop _ ih =>
    intro k hk hsim K0 K S0 w0 w a hI0 hs hI hF hE
    have hw := E6 hg (K := K) (w := w) (a := a) (fun _ _ d _ _ => hF.rep d)
    have ho : ops[k]? = some o := by have := hk 0; simpa using this.symm
    simp only [List.all_cons, Bool.and_eq_true] at hsim
    simp only [List.length_cons, List.range'_succ]
    refine O5 ho hsim.1 hw (hop none 0 K w a _ _ hI (fun x _ => hF.ev x) fun v w' K' h1 h2 h3 => ?_)
    exact ih (k + 1) (fun j => by have := hk (j + 1); simp only [List.getElem?_cons_succ] at this; rw [this]; congr 1; omega) hsim.2 K0 K' S0 w0 w' _ hI0 (hs.trans hI0 h1) h2 (hF.put h1 h3) (by rw [D5]; exact hE)
  | @panic o rest F S c S' hg hop =>
    intro k hk hsim K0 K S0 w0 w a hI0 hs hI hF hE
    have hw := E6 hg (K := K) (w := w) (a := a) (fun _ _ d _ _ => hF.rep d)
    have ho : ops[k]? = some o := by have := hk 0; simpa using this.symm
    simp only [List.all_cons, Bool.and_eq_true] at hsim
    simp only [List.length_cons, List.range'_succ]
    exact O5 ho hsim.1 hw (hop none 0 K w a _ _ hI (fun x _ => hF.ev x) fun w' K' h1 h2 => hE K' a w' (hs.trans hI0 h1) h2 hF.size rfl)
def recV : Option Value -> PV
  | none => .d (.v .nilIface)
  | some c => .d (.v c)
theorem Nc {P : Program} {g id : Nat} {fn : Func} {o0 : Oper} {tl : List Oper} {rest : Code} {caps : List PV} {S S' : PS} {u : Option Value} (hf : P.funcs[g]? = some fn) (hb : fn.body = some (.seq (.region id (o0 :: tl).toArray false) rest)) (hg : o0.guard = none)
    (hrec : ∀ (ρ : Operand -> Value) (w : World), (execOp ρ o0).run P w = .ok .recover w) (hsim : tl.all (fun o => O4 o.op) = true) (hn : caps.length <= fn.ntmps) (hu1 : ∀ c, u = some c -> c.oneCell' = true) (hS : S'.boxes.length = S.boxes.length) (hT : S.toks.length <= S'.toks.length)
    (h : WK P fn.ntmps (o0 :: tl).toArray tl (Cd fn.ntmps o0.dst (recV u) (Hj caps)) S (Adg (M5 (PW P fn.ntmps rest (Q8 P fn (.ret (.tup [])) S')) (fun _ _ _ => False)))) : EvD P g caps S u S' := by
  intro n K w vs hI hA
  have hl := hA.length
  refine callsDIn_of_wpSIn hf hb trivial fun c₀ cs hu => wpSIn_seq (wpSIn_region ?_)
  obtain ⟨a, ha⟩ : ∃ a : Act, a = { tmps := vs.toArray ++ Array.replicate (fn.ntmps - vs.toArray.size) undef, defers := [] } := ⟨_, rfl⟩
  rw [<- ha]
  have hF : FrameRep K w fn.ntmps (Hj caps) a := by
    refine ⟨by rw [ha]; simp; omega, fun t => ?_⟩
    have := D9 caps vs (fn.ntmps - vs.toArray.size) t hA
    rw [ha, Array.getD_eq_getD_getElem?]
    rw [List.getD_eq_getElem?_getD] at this
    rw [<- Array.getElem?_toList]
    simpa using this
  have hd0 : a.defers = [] := by rw [ha]
  have hw0 : ∀ Y, Region.wanted o0 Y = true := fun Y => by unfold Region.wanted; rw [hg]
  have hsz : List.range (o0 :: tl).toArray.size = 0 :: List.range' 1 tl.length := by simp [List.range_eq_range', List.range'_succ]
  rw [hsz]
  obtain ⟨res, hwalk, hres⟩ := h.ex
  have key : ∀ (v : Value) (u' : FrameMode), Rep K w (recV u) v -> settle u' = .returning -> wpOpsSIn Fence.wide n P (o0 :: tl).toArray (Exit.thenS (rest.wpSIn Fence.wide n P (bodyPostS P fn c₀ cs fun e u' w' => (∃ v, e = .returned v) /\ settle u' = .returning /\ ∃ K', Step K K' w w' /\ Inv K' S' w'))
      (bodyPostS P fn c₀ cs fun e u' w' => (∃ v, e = .returned v) /\ settle u' = .returning /\ ∃ K', Step K K' w w' /\ Inv K' S' w')) (List.range' 1 tl.length) (a.put o0.dst v) ({ c₀ with mode := u' } :: cs) w := by
    intro v u' hv hset
    refine walkS hwalk 1 (fun j => by simp [Nat.add_comm 1 j]) hsim K K S w w _ hI (Step.refl K w) hI (hF.put (Step.refl K w) hv) ?_
    cases res with
    | panic c S1 => exact hres.elim
    | done F1 S1 =>
      intro K1 a1 w1 h1 h2 h3 h4
      refine wpSIn_of_wpIn rfl (wpIn_wide.2 ?_)
      have hpw : PW P fn.ntmps rest (Q8 P fn (.ret (.tup [])) S') F1 S1 := hres
      refine wp_mono (hpw.run0 K1 w1 a1 h2 h3) fun e a2 w2 hq => ?_
      obtain ⟨K2, F2, S2, s1, s2, s3, s4, h5, h6, he, ps, h8, h9, _⟩ := hq
      have hdf : a2.defers = [] := by rw [s4, h4, D5, hd0]
      have hcut := s2.cut (n := S'.boxes.length) (m := S'.toks.length) h5
      rw [h6] at hcut
      obtain ⟨v2, h10, h11⟩ := Ew s2 s3 h8
      have hpost : ∃ u'', ({ c₀ with mode := u' } :: cs : List Frame) = { c₀ with mode := u'' } :: cs /\ ∃ v, (results fn a2.tmps).run P w2 = .ok v w2 /\ ((∃ v', Ending.returned v = .returned v') /\ settle u'' = .returning /\ ∃ K', Step K K' w w2 /\ Inv K' S' w2) :=
        ⟨u', rfl, v2, h10, ⟨_, rfl⟩, hset, _, C8 hI (h1.trans hI s1) (by omega) hT, hcut⟩
      rcases he with rfl | rfl
      . exact ⟨hdf, hpost⟩
      . exact ⟨hdf, hpost⟩
  simp only [wpOpsSIn, List.getElem?_toArray, List.getElem?_cons_zero, hw0, if_true, hrec]
  refine ⟨fun _ _ => trivial, ?_⟩
  cases u with
  | none =>
    have e : recoverD (c₀ :: cs) = none := by simp [recoverD, hu, Pq]
    rw [e]
    have h1 := key .nilIface .returning (by simp [recV, Rep, Cj, Value.oneCell']) rfl
    have e2 : ({ c₀ with mode := .returning } : Frame) = c₀ := by cases c₀; simp only [Pq] at hu; subst hu; rfl
    rw [e2] at h1
    exact h1
  | some c =>
    have e : recoverD (c₀ :: cs) = some (c, { c₀ with mode := .panicking [{ v := c, recovered := true }] } :: cs) := by simp [recoverD, hu, Pq]
    rw [e]
    exact key c _ (by simp [recV, Rep, Cj, hu1 c rfl]) rfl
def valP (z : Value) : PV := match z with | .agg cs => .agg (cs.toList.map fun v => .d (.v v)) | z => .d (.v z)
theorem valP_rep {K : Kx} {w : World} {z : Value} (h : z.cells.all (·.oneCell') = true) : Rep K w (valP z) z := by
  unfold valP
  split
  . rename_i cs
    simp only [Rep]
    refine ⟨cs.toList, by simp, Iu _ fun v hv => ?_⟩
    have : (Value.agg cs).cells = cs := rfl
    rw [this, <- Array.all_toList] at h
    exact List.all_eq_true.1 h v hv
  . rename_i hne
    simp only [Rep, Cj]
    refine ⟨trivial, ?_⟩
    cases z with
    | agg cs => exact absurd rfl (hne cs)
    | _ => first | rfl | (simp [Value.cells, Value.oneCell'] at h |-)
theorem Ky {P : Program} {o : Oper} {F : Nat -> PV} {S : PS} {x : Operand} {v z : Value} {b : Bool} {t T : TypeId} (ho : o.op = .typeAssert x t T true) (hx : evP F x = .d (.v v)) (hrun : ∀ w, (Instr.typeAssert v t T true).run P w = .ok (.tuple #[z, .bool b]) w) (hz : z.cells.all (·.oneCell') = true) :
    OpS P o F S (.tup [valP z, .d (.v (.bool b))]) S :=
  OpS.pure fun K w ρ hI h => by
    have h1 := h x (by simp [ho, Op.operands])
    rw [hx] at h1
    have h1 := Cb h1
    refine ⟨.tuple #[z, .bool b], ?_, ?_⟩
    . simp only [execOp, ho, h1, Sem.run_bind, hrun, Result.andThen_ok, Sem.run_pure]
    . simp only [Rep]
      exact ⟨[z, .bool b], rfl, by simp only [Ap]; exact ⟨z, _, rfl, valP_rep hz, .bool b, _, rfl, by simp [Rep, Cj, Value.oneCell'], rfl⟩⟩
end Go.Proofs.YtjagmmmcibdibaaGreatDoor
namespace Go.Proofs.YtjagmmmcibdibaaGreatDoor
open Go.RowKit
def andZ (k : IntKind) (a b : Int) : Int := k.wrap (BitVec.ofInt k.bits a &&& BitVec.ofInt k.bits b).toNat
section
variable {P : Program} {o : Oper} {F : Nat -> PV} {S : PS} {ty yt : TypeId} {x y : Operand}
theorem opb_and {k : IntKind} {a b : Int} (ho : o.op = .binOp .and ty x y yt) (hx : evP F x = .d (.v (.int k a))) (hy : evP F y = .d (.v (.int k b))) : OpS P o F S (.d (.v (.int k (andZ k a b)))) S :=
  Cm ho hx hy rfl fun w => by simp [De, binOp, Op.intBits, andZ]
theorem Ni {z : Value} {zs : Array Value} (h : zs.toList = [z]) (n : Nat) : (madeCells zs n).toList = List.replicate n z := by
  have hz : zs = #[z] := by apply Array.ext'; simpa using h
  subst hz
  apply List.ext_getElem
  . simp [madeCells]
  . intro j h1 h2
    simp [madeCells, Nat.mod_one]
theorem No {K : Kx} {w : World} {z : Value} (hz : z.oneCell' = true) : ∀ n : Nat, Ap K w (List.replicate n (.d (.v z))) (List.replicate n z)
  | 0 => by simp [Ap]
  | n + 1 => by
    simp only [List.replicate_succ, Ap]
    exact ⟨_, _, rfl, D6 hz, No hz n⟩
theorem Agn {t : TypeId} {I : TyI} {n : Nat} {z : Value} {kx ky : IntKind} (ho : o.op = .makeSlice t x y) (hI : TyI.of P t = some I) (hk : I.kind = 2) (hek : I.ek = 1) (hez : I.ez = [z]) (hz1 : z.oneCell' = true) (hx : evP F x = .d (.v (.int kx n))) (hy : evP F y = .d (.v (.int ky n)))
    (hn : I.eb * n <= 281474976710656) (h63 : n <= 9223372036854775807) : OpS P o F S (.d (.sl 1 (List.replicate n [.v z]))) S :=
  OpS.val fun K w ρ hInv h => by
    have h1 := h x (by simp [ho, Op.operands])
    have h2 := h y (by simp [ho, Op.operands])
    rw [hx] at h1
    rw [hy] at h2
    have h1 := Cb h1
    have h2 := Cb h2
    obtain ⟨i, d, zz, hi, hu, hz, _, hzz, hd⟩ := TyI.inv hI
    rw [hk] at hd; simp at hd
    obtain ⟨rfl, ie, hie, ze, hze, hzs, hek2, heb, hez2⟩ := hd
    have hsz : ie.size = 1 := by rw [<- hek]; first | exact hek2 | exact hek2.symm
    have hcl : ze.cells.toList = [z] := by rw [<- hez]; first | exact hez2.1 | exact hez2.1.symm
    have hrun := run_make (P := P) w t I.elem ie ze hu hie hze kx ky n n (by omega) (Int.le_refl _) (by have hb : ie.bytes = I.eb := (by first | exact heb | exact heb.symm); rw [hb]; omega) (by omega)
    simp only [Int.toNat_natCast, hsz, Nat.mul_one] at hrun
    obtain ⟨g1, g2⟩ := hInv.below (w' := w.alloc (.cells (madeCells ze.cells n) I.elem)) ((Below.refl _ _).alloc (Nat.le_refl _) _)
    refine ⟨_, _, K, by simp only [execOp, ho, h1, h2, Sem.run_bind, hrun]; rfl, g2, g1, ?_⟩
    simp only [Rep, Cj, List.length_replicate]
    refine ⟨_, n, rfl, Nat.le_refl _, h63, fun _ => ⟨w.heap.size, 0, rfl, Xu hInv (by simp) _, Eh.2 ⟨fun e he => by rw [List.eq_of_mem_replicate he]; rfl, ?_⟩⟩⟩
    have e1 : (List.replicate n [DV.v z]).flatten = List.replicate n (.v z) := by simp
    rw [e1]
    refine If Aap ?_
    rw [Ni hcl n, List.map_replicate]
    exact No hz1 n
end
section
variable {N : Nat} {ops : Array Oper} {rest : List Oper} {o : Oper} {F : Nat -> PV} {S : PS} {q : WRes -> Prop}
theorem wand {k : IntKind} {a b : Int} {ty yt : TypeId} {x y : Operand} (hg : Al ops F o = some true) (ho : o.op = .binOp .and ty x y yt) (hx : evP F x = .d (.v (.int k a))) (hy : evP F y = .d (.v (.int k b)))
    (kk : WK Tryz.prog N ops rest (Cd N o.dst (.d (.v (.int k (andZ k a b)))) F) S q) : WK Tryz.prog N ops (o :: rest) F S q := Eo hg (opb_and ho hx hy) kk
theorem wivc {t : TypeId} {x y : Operand} {l : List PV} {kd : IntKind} {j : Int} {p : PV} (hg : Al ops F o = some true) (ho : o.op = .index t x y) (hk : (Ba t && Nat.beq (tyi t).kind 3 && Ba (tyi t).elem && !(tyi (tyi t).elem).isRow) = true) (hx : evP F x = .agg l) (hy : evP F y = .d (.v (.int kd j))) (h0 : 0 <= j) (h1 : j < (tyi t).len)
    (hp : l[j.toNat * (tyi (tyi t).elem).size]? = some p) (kk : WK Tryz.prog N ops rest (Cd N o.dst p F) S q) : WK Tryz.prog N ops (o :: rest) F S q := by
  simp only [Bool.and_eq_true, Bool.not_eq_true'] at hk
  exact Eo hg (G9 ho (Fj t hk.1.1.1) (Nat.eq_of_beq_eq_true hk.1.1.2) (Fj _ hk.1.2) hx hy h0 h1 (.inr ⟨hk.2, hp⟩)) kk
theorem wmake {t : TypeId} {x y : Operand} {n : Nat} {kx ky : IntKind} (z : Value) (hg : Al ops F o = some true) (ho : o.op = .makeSlice t x y) (hk : (Ba t && Nat.beq (tyi t).kind 2 && Nat.beq (tyi t).ek 1) = true) (hez : (tyi t).ez = [z]) (hz1 : z.oneCell' = true) (hx : evP F x = .d (.v (.int kx n))) (hy : evP F y = .d (.v (.int ky n)))
    (hn : (tyi t).eb * n <= 281474976710656) (h63 : n <= 9223372036854775807) (kk : WK Tryz.prog N ops rest (Cd N o.dst (.d (.sl 1 (List.replicate n [.v z]))) F) S q) : WK Tryz.prog N ops (o :: rest) F S q := by
  simp only [Bool.and_eq_true] at hk
  exact Eo hg (Agn ho (Fj t hk.1.1) (Nat.eq_of_beq_eq_true hk.1.2) (Nat.eq_of_beq_eq_true hk.2) hez hz1 hx hy hn h63) kk
end
@[reducible] def H5 (l : List UInt8) : PV := .d (.sl 1 (l.map fun b => [.v (.int .u8 b.toNat)]))
def B1 (l : List UInt8) (a : Nat) : Int := if a < l.length /\ a < 18 then ((l.getD a 0).toNat : Int) else 0
theorem Ht (l : List UInt8) (a : Nat) : 0 <= B1 l a /\ B1 l a < 256 := by
  unfold B1
  split
  . have := (l.getD a 0).toNat_lt
    omega
  . omega
theorem Ad5 {l : List UInt8} {a : Nat} (h : a < l.length) : (l.map fun b => [DV.v (.int .u8 b.toNat)])[((a : Nat) : Int).toNat]? = some [.v (.int .u8 ((l.getD a 0).toNat : Int))] := by
  simp [h, List.getD_eq_getElem?_getD]
@[reducible] def mkS (l : List UInt8) (a : Nat) : PS := ⟨[[H5 l, An a]], []⟩
theorem Af2 (l : List UInt8) (a : Nat) (ha : a <= 1000000) : Aw 73 [.ptr 0 0] (mkS l a) (.ret (An (B1 l a))) (mkS l (a + 1)) := by
  refine Af Tryz.func73 rfl rfl (Nat.le_of_ble_eq_true rfl) rfl (Nat.le_refl _) ?_
  repeat' (first | refine rl0 ?_ | refine rs0 (fun h => ?_) (fun h => ?_) | fail)
  . rw [show B1 l a = 0 from if_neg (by simp at h; omega)]
  . rename_i g
    rw [show B1 l a = 0 from if_neg (by simp at g h; omega)]
  . rename_i g
    have hc : a < l.length /\ a < 18 := by simp at g h; omega
    refine Tj [.v (.int .u8 ((l.getD a 0).toNat : Int))] rfl rfl rfl rfl rfl (by rw [show ((a : Int) + 1 - 1).toNat = ((a : Nat) : Int).toNat from by omega]; exact Ad5 hc.1) (by omega) ?_
    have hlt := (l.getD a 0).toNat_lt
    repeat' (first | refine rl0 ?_ | refine rs0 (fun h => ?_) (fun h => ?_) | fail)
    refine wan rfl rfl ⟨by show (-9223372036854775808 : Int) <= _; omega, by show _ <= (9223372036854775807 : Int); omega⟩ ?_
    repeat' (first | refine rl0 ?_ | refine rs0 (fun h => ?_) (fun h => ?_) | fail)
    rw [show B1 l a = ((l.getD a 0).toNat : Int) from if_pos hc]
    rfl
end Go.Proofs.YtjagmmmcibdibaaGreatDoor
namespace Go.Proofs.YtjagmmmcibdibaaGreatDoor
open Go.RowKit
def sXyz : ByteArray := ⟨#[120, 121, 122]⟩
def Hi (want n : Int) : Bool := decide (want = 1) || (decide (want = 0) && decide (andZ .i64 n 128 = 0))
def numT : List Int := [0, 1, 2, 3, 5, 9999, 7, 1]
def Gu (num : Bool) (n : Int) : Ex :=
  if num = false then .mk (3 + n / 16 % 2) 0 ⟨#[]⟩ [] else if 1 < n % 16 then .mk 2 0 (sXyz.extract (n / 16 % 3).toNat (n / 16 % 3 + 1).toNat) [] else .mk 1 (numT.getD (n / 16 % 8).toNat 0) ⟨#[]⟩ []
def Cl (num : Bool) (n : Int) : Int × List Int :=
  if num = false then (if n % 16 < 10 then (11 + n / 16 % 6, [1, 1]) else if n % 16 < 11 then (6, [2]) else if n % 16 < 15 then (17 + n / 16 % 2, [2, 2]) else (19, [2, 2, 2]))
  else (if n % 16 < 7 then (5, [1]) else if n % 16 < 14 then (7 + n / 16 % 4, [1, 1]) else (19, [2, 1, 1]))
def Cg (g : Int -> Nat -> Ex × Nat) : List Int -> Nat -> List Ex × Nat
  | [], a => ([], a)
  | t :: ts, a => ((g t a).1 :: (Cg g ts (g t a).2).1, (Cg g ts (g t a).2).2)
def Kl (want : Int) (ts : List Int) : List Int := if want = 0 then List.replicate ts.length 0 else ts
def Jf (l : List UInt8) : Nat -> Int -> Nat -> Ex × Nat
  | 0, want, a => (Gu (Hi want (B1 l a)) (B1 l a), a + 1)
  | f + 1, want, a => if B1 l a % 16 < 5 then (Gu (Hi want (B1 l a)) (B1 l a), a + 1) else
      (.mk (Cl (Hi want (B1 l a)) (B1 l a)).1 0 ⟨#[]⟩ (Cg (Jf l f) (Kl want (Cl (Hi want (B1 l a)) (B1 l a)).2) (a + 1)).1, (Cg (Jf l f) (Kl want (Cl (Hi want (B1 l a)) (B1 l a)).2) (a + 1)).2)
theorem Of (num : Bool) (n : Int) : 1 <= (Cl num n).2.length /\ (Cl num n).2.length <= 3 := by
  unfold Cl
  repeat' split
  all_goals simp
theorem Km (want : Int) (ts : List Int) : (Kl want ts).length = ts.length := by unfold Kl; split <;> simp
theorem Rt {g : Int -> Nat -> Ex × Nat} {b : Nat} (hg : ∀ t a, (g t a).2 <= a + b) : ∀ (ts : List Int) (a : Nat), (Cg g ts a).2 <= a + ts.length * b
  | [], a => by simp [Cg]
  | t :: ts, a => by
    have h1 := hg t a
    have h2 := Rt hg ts (g t a).2
    simp only [Cg, List.length_cons, Nat.succ_mul]
    omega
theorem Agf (l : List UInt8) : ∀ (f : Nat) (want : Int) (a : Nat), (Jf l f want a).2 <= a + 4 ^ f
  | 0, want, a => by simp [Jf]
  | f + 1, want, a => by
    have hp : 1 <= 4 ^ f := Nat.pos_of_ne_zero (by simp)
    rw [Jf]
    split
    . simp only [Nat.pow_succ]; omega
    . have h1 := Rt (Agf l f) (Kl want (Cl (Hi want (B1 l a)) (B1 l a)).2) (a + 1)
      have h2 := Of (Hi want (B1 l a)) (B1 l a)
      rw [Km] at h1
      have h3 : (Cl (Hi want (B1 l a)) (B1 l a)).2.length * 4 ^ f <= 3 * 4 ^ f := Nat.mul_le_mul_right _ h2.2
      simp only [Nat.pow_succ]; omega
theorem Qc {g : Int -> Nat -> Ex × Nat} : ∀ {ts : List Int} {a i : Nat} {t : Int}, ts[i]? = some t -> Cg g (ts.take (i + 1)) a = ((Cg g (ts.take i) a).1 ++ [(g t (Cg g (ts.take i) a).2).1], (g t (Cg g (ts.take i) a).2).2)
  | [], a, i, t, h => by simp at h
  | s :: ts, a, 0, t, h => by simp at h; subst h; simp [Cg]
  | s :: ts, a, i + 1, t, h => by
    simp only [List.getElem?_cons_succ] at h
    have := Qc (g := g) (a := (g s a).2) h
    simp only [List.take_succ_cons, Cg, this, List.cons_append]
theorem Oi {g : Int -> Nat -> Ex × Nat} : ∀ (ts : List Int) (a : Nat), (Cg g ts a).1.length = ts.length
  | [], a => rfl
  | t :: ts, a => by simp [Cg, Oi ts]
theorem ints_get {l : List Int} {i : Nat} {x : Int} (h : l[i]? = some x) : (l.map fun n => [DV.v (.int .i64 n)])[((i : Nat) : Int).toNat]? = some [.v (.int .i64 x)] := by simp [h]
theorem Xq (l r : List Ex) : Ic (l ++ r) = Ic l ++ Ic r := by simp [Hn]
set_option maxHeartbeats 1000000 in
theorem list_do (l : List UInt8) (g : Int -> Nat -> Ex × Nat) (b : Nat) (deep : Int) (hd : 0 <= deep /\ deep <= 100) (hg : ∀ t a, (g t a).2 <= a + b) (hone : ∀ (t : Int) (a : Nat), a + b <= 1000000 -> Aw 39 [.ptr 0 0, An t, An (deep + 1)] (mkS l a) (.ret (exP (g t a).1)) (mkS l (g t a).2)) (ts : List Int) (hts : ts.length <= 3) (a : Nat) (ha : a + 3 * b <= 1000000) :
    Aw 109 [.ptr 0 0, An deep, Dv ts] (mkS l a) (.ret (.d (.sl 4 (Ic (Cg g ts a).1)))) (mkS l (Cg g ts a).2) := by
  have raw : Aw 109 [.ptr 0 0, An deep, Dv ts] (mkS l a) (.ret (.hd 0 ts.length)) ⟨[[H5 l, An (Cg g ts a).2]], [⟨ts.length, 4, Ic (Cg g ts a).1, 24⟩]⟩ := by
    refine Af Tryz.func109 rfl rfl (Nat.le_of_ble_eq_true rfl) rfl (by simp) ?_
    repeat' (first | refine rl0 ?_ | refine rs0 (fun h => ?_) (fun h => ?_) | fail)
    refine Ag3 7 4 24 rfl ?_
    refine Ca (ι := Nat) (ok := fun i => i <= ts.length) (L := fun i => [(0, .ptr 0 0), (1, An deep), (7, .hd 0 i), (10, Dv ts), (11, An (ts.map fun n => [DV.v (.int .i64 n)]).length), (12, An i)]) (Sx := fun i => ⟨[[H5 l, An (Cg g (ts.take i) a).2]], [⟨i, 4, Ic (Cg g (ts.take i) a).1, 24⟩]⟩) (μ := fun i => ts.length - i) 0 (Nat.zero_le _) (by repeat (first | exact Ag | refine Aa rfl ?_)) rfl ?_
    rintro i hi
    repeat' (first | refine rl0 ?_ | refine rs0 (fun h => ?_) (fun h => ?_) | fail)
    . have hlt : i < ts.length := by simpa using h
      obtain ⟨t, ht⟩ : ∃ t, ts[i]? = some t := ⟨_, List.getElem?_eq_getElem hlt⟩
      have hstep := Qc (g := g) (a := a) ht
      have hle := Rt hg (ts.take i) a
      rw [List.length_take, Nat.min_eq_left hi] at hle
      have hib : i * b <= 2 * b := Nat.mul_le_mul_right _ (by omega)
      have hll := Oi (g := g) (ts.take i) a
      rw [List.length_take, Nat.min_eq_left hi] at hll
      refine wix _ rfl rfl rfl rfl rfl (ints_get ht) (by omega) ?_
      repeat' (first | refine rl0 ?_ | refine rs0 (fun h => ?_) (fun h => ?_) | fail)
      refine wcb (id := 0) (hone t _ (by omega)) rfl rfl rfl rfl rfl rfl rfl rfl (by repeat (first | exact Ae | refine Ab (Ac _) ?_)) rfl ?_
      generalize hx : g t (Cg g (ts.take i) a).2 = x at hstep |-
      obtain ⟨x, a2⟩ := x
      repeat' (first | refine rl0 ?_ | refine rs0 (fun h => ?_) (fun h => ?_) | fail)
      refine Ww (news := [[.v (.int .i64 x.op), .v (.int .i64 x.n), .v (.string x.name), .sl 4 (Ic x.args)]]) (S' := ⟨[[H5 l, An a2]], [⟨i + 1, 4, Ic (Cg g (ts.take i) a).1 ++ [[.v (.int .i64 x.op), .v (.int .i64 x.n), .v (.string x.name), .sl 4 (Ic x.args)]], 24⟩]⟩) rfl rfl rfl rfl rfl rfl ?_ ?_ rfl ?_
      . rw [Bb, hll]; show (i + 1) * 56 <= _; omega
      . rw [Bb, hll]; show i + 1 <= _; omega
      repeat' (first | refine rl0 ?_ | refine rs0 (fun h => ?_) (fun h => ?_) | fail)
      refine ⟨i + 1, by omega, by omega, (by repeat (first | exact Ag | refine Aa rfl ?_)), ?_⟩
      rw [hstep, Xq]
      simp [Ic]
      cases x; rfl
    . obtain rfl : i = ts.length := by have : ¬ (i < ts.length) := by simpa using h
                                       omega
      rw [List.take_length]
      exact fin rfl rfl (.inr rfl) rfl rfl rfl rfl
  exact Kk (S' := ⟨[[H5 l, An (Cg g ts a).2]], [⟨ts.length, 4, Ic (Cg g ts a).1, 24⟩]⟩) 1 0 (Dy raw (Ki (Fc rfl))) (Nat.le_refl _) (Nat.le_refl _) rfl rfl
set_option maxHeartbeats 1000000 in
theorem sub_do (l : List UInt8) (g : Int -> Nat -> Ex × Nat) (b : Nat) (deep op : Int) (want : Int) (hd : 0 <= deep /\ deep <= 100) (hg : ∀ t a, (g t a).2 <= a + b) (hone : ∀ (t : Int) (a : Nat), a + b <= 1000000 -> Aw 39 [.ptr 0 0, An t, An (deep + 1)] (mkS l a) (.ret (exP (g t a).1)) (mkS l (g t a).2)) (ts : List Int) (hts : ts.length <= 3) (a : Nat) (ha : a + 3 * b <= 1000000) :
    Aw 74 [.ptr 0 0, At (decide (want = 0)), An deep, An op, Dv ts] (mkS l a) (.ret (exP (.mk op 0 ⟨#[]⟩ (Cg g (Kl want ts) a).1))) (mkS l (Cg g (Kl want ts) a).2) := by
  have hL := list_do l g b deep hd hg hone (Kl want ts) (by rw [Km]; exact hts) a ha
  unfold Kl at hL |-
  refine Af Tryz.func74 rfl rfl (Nat.le_of_ble_eq_true rfl) rfl (Nat.le_refl _) ?_
  repeat' (first | refine rl0 ?_ | refine rs0 (fun h => ?_) (fun h => ?_) | fail)
  . have hw : want = 0 := by simpa using h
    rw [if_pos hw] at hL |-
    rw [show Dv (List.replicate ts.length 0) = .d (.sl 1 (List.replicate ts.length [.v (.int .i64 0)])) from by simp] at hL
    refine wmake (n := (ts.map fun n => [DV.v (.int .i64 n)]).length) (kx := .i64) (ky := .i64) (.int .i64 0) rfl rfl rfl rfl rfl rfl rfl (by rw [List.length_map]; show 8 * _ <= _; omega) (by rw [List.length_map]; omega) ?_
    rw [List.length_map]
    repeat' (first | refine rl0 ?_ | refine rs0 (fun h => ?_) (fun h => ?_) | fail)
    refine wcb (id := 0) hL rfl rfl rfl rfl rfl rfl rfl rfl (by repeat (first | exact Ae | refine Ab (Ac _) ?_)) rfl ?_
    repeat' (first | refine rl0 ?_ | refine rs0 (fun h => ?_) (fun h => ?_) | fail)
    rfl
  . have hw : want ≠ 0 := by simpa using h
    rw [if_neg hw] at hL |-
    refine wcb (id := 0) hL rfl rfl rfl rfl rfl rfl rfl rfl (by repeat (first | exact Ae | refine Ab (Ac _) ?_)) rfl ?_
    repeat' (first | refine rl0 ?_ | refine rs0 (fun h => ?_) (fun h => ?_) | fail)
    rfl
end Go.Proofs.YtjagmmmcibdibaaGreatDoor
namespace Go.Proofs.YtjagmmmcibdibaaGreatDoor
open Go.RowKit
theorem tab8 {n : Int} (h0 : 0 <= n) (h1 : n < 256) : (([An 0, An 1, An 2, An 3, An 5, An 9999, An 7, An 1] : List PV)[(n / 16 % 8).toNat * 1]?) = some (An (numT.getD (n / 16 % 8).toNat 0)) := by
  have : n / 16 % 8 = 0 \/ n / 16 % 8 = 1 \/ n / 16 % 8 = 2 \/ n / 16 % 8 = 3 \/ n / 16 % 8 = 4 \/ n / 16 % 8 = 5 \/ n / 16 % 8 = 6 \/ n / 16 % 8 = 7 := by omega
  rcases this with h | h | h | h | h | h | h | h <;> rw [h] <;> rfl
set_option maxHeartbeats 2000000 in
theorem Aab (l : List UInt8) (want deep : Int) (a : Nat) (ha : a <= 1000000) (hd : 0 <= deep /\ deep <= 100) (hl : 10 <= deep \/ B1 l a % 16 < 5) : Aw 39 [.ptr 0 0, An want, An deep] (mkS l a) (.ret (exP (Gu (Hi want (B1 l a)) (B1 l a)))) (mkS l (a + 1)) := by
  have hn := Ht l a
  have raw : Aw 39 [.ptr 0 0, An want, An deep] (mkS l a) (.ret (.agg [An (Gu (Hi want (B1 l a)) (B1 l a)).op, An (Gu (Hi want (B1 l a)) (B1 l a)).n, Fi (Gu (Hi want (B1 l a)) (B1 l a)).name, .d (.v (.slice none 0 0))])) (mkS l (a + 1)) := by
    refine Af Tryz.func39 rfl rfl (Nat.le_of_ble_eq_true rfl) rfl (Nat.le_refl _) ?_
    repeat' (first | refine rl0 ?_ | refine rs0 (fun h => ?_) (fun h => ?_) | fail)
    refine wcb (id := 0) (Af2 l a ha) rfl rfl rfl rfl rfl rfl rfl rfl (by repeat (first | exact Ae | refine Ab (Ac _) ?_)) rfl ?_
    generalize B1 l a = n at *
    refine wst rfl rfl trivial ?_
    refine Cq ?_
    refine Co ?_
    refine V8 (ι := Unit) (fun _ => True) (fun _ => [(0, .ptr 0 0), (1, An want), (2, An deep), (6, .ptr 1 0), (7, An n), (8, At (Hi want n))]) (fun _ => ⟨[[H5 l, An ((a + 1 : Nat) : Int)], [An 0, An 0, Fi ⟨#[]⟩, .d (.v (.slice none 0 0))]], []⟩) ?_ (fun _ _ => ?_)
    . refine Bf ?_
      refine wst rfl rfl trivial ?_
      refine wst rfl rfl trivial ?_
      refine wst rfl rfl trivial ?_
      refine Ph rfl rfl rfl ⟨rfl⟩ (fun h => ?_) (fun h => ?_)
      . repeat refine Mf rfl ?_
        refine wst rfl rfl trivial ?_
        refine wst rfl rfl trivial ?_
        refine Cq ?_
        refine ⟨(), trivial, ?_, rfl⟩
        have e : Hi want n = true := by unfold Hi; rw [h]; rfl
        rw [e]
        exact (by repeat (first | exact Ag | refine Aa rfl ?_))
      . refine wst rfl rfl trivial ?_
        refine wst rfl rfl trivial ?_
        refine wst rfl rfl trivial ?_
        refine Ph rfl rfl rfl ⟨rfl⟩ (fun h2 => ?_) (fun h2 => ?_)
        . refine wst rfl rfl trivial ?_
          refine wand rfl rfl rfl rfl ?_
          refine wst rfl rfl trivial ?_
          refine wst rfl rfl trivial ?_
          refine wst rfl rfl trivial ?_
          refine wst rfl rfl trivial ?_
          refine Cq ?_
          refine ⟨(), trivial, ?_, rfl⟩
          have e : Hi want n = decide (andZ .i64 n 128 = 0) := by unfold Hi; rw [h, h2]; rfl
          rw [e]
          exact (by repeat (first | exact Ag | refine Aa rfl ?_))
        . repeat refine Mf rfl ?_
          refine wst rfl rfl trivial ?_
          refine wst rfl rfl trivial ?_
          refine wst rfl rfl trivial ?_
          refine Cq ?_
          refine ⟨(), trivial, ?_, rfl⟩
          have e : Hi want n = false := by unfold Hi; rw [h, h2]; rfl
          rw [e]
          exact (by repeat (first | exact Ag | refine Aa rfl ?_))
    generalize Hi want n = b
    refine Co ?_
    refine Co ?_
    refine V8 (ι := Unit) (fun _ => True) (fun _ => [(0, .ptr 0 0), (1, An want), (2, An deep), (6, .ptr 1 0), (7, An n), (8, At b), (29, At true)]) (fun _ => ⟨[[H5 l, An ((a + 1 : Nat) : Int)], [An 0, An 0, Fi ⟨#[]⟩, .d (.v (.slice none 0 0))]], []⟩) ?_ (fun _ _ => ?_)
    . refine Bf ?_
      refine wst rfl rfl trivial ?_
      refine wst rfl rfl trivial ?_
      refine wst rfl rfl trivial ?_
      refine Ph rfl rfl rfl ⟨rfl⟩ (fun h => ?_) (fun h => ?_)
      . repeat refine Mf rfl ?_
        refine wst rfl rfl trivial ?_
        refine Cq ?_
        exact ⟨(), trivial, (by repeat (first | exact Ag | refine Aa rfl ?_)), rfl⟩
      . refine wst rfl rfl trivial ?_
        refine wst rfl rfl ⟨by omega, by omega⟩ ?_
        refine wst rfl rfl trivial ?_
        refine wst rfl rfl trivial ?_
        refine Cq ?_
        refine ⟨(), trivial, ?_, rfl⟩
        have e : decide (n % 16 < 5) = true := by simp at h |-; omega
        exact Aa rfl (Aa rfl (Aa rfl (Aa rfl (Aa rfl (Aa rfl (Aa (show PV.d (.v (.bool (decide (n % 16 < 5)))) = _ by rw [e]) Ag))))))
    cases b
    . repeat' (first | refine rl0 ?_ | refine rs0 (fun h => ?_) (fun h => ?_) | fail)
      rw [show Gu false n = .mk (3 + n / 16 % 2) 0 ⟨#[]⟩ [] from rfl]
      rfl
    . repeat' (first | refine rl0 ?_ | refine rs0 (fun h => ?_) (fun h => ?_) | fail)
      . have e : Gu true n = .mk 2 0 (sXyz.extract (n / 16 % 3).toNat (n / 16 % 3 + 1).toNat) [] := by unfold Gu; rw [if_neg (by simp), if_pos (by simpa using h)]
        refine wst rfl rfl ⟨by omega, by omega, by show _ <= (3 : Int); omega⟩ ?_
        repeat' (first | refine rl0 ?_ | refine rs0 (fun h => ?_) (fun h => ?_) | fail)
        rw [e]
        rfl
      . have e : Gu true n = .mk 1 (numT.getD (n / 16 % 8).toNat 0) ⟨#[]⟩ [] := by unfold Gu; rw [if_neg (by simp), if_neg (by simpa using h)]
        refine wivc rfl rfl rfl rfl rfl (by omega) (by show _ < 8; omega) (tab8 hn.1 hn.2) ?_
        repeat' (first | refine rl0 ?_ | refine rs0 (fun h => ?_) (fun h => ?_) | fail)
        rw [e]
        rfl
  exact Dy raw (Eb (Ab (Ac _) (Ab (Ac _) (Ab (Ac _) (Ab (by
    have e : Ic (Gu (Hi want (B1 l a)) (B1 l a)).args = [] := by
      unfold Gu
      split
      . rfl
      . split <;> rfl
    rw [e]; exact Er) Ae)))))
set_option maxHeartbeats 4000000 in
theorem one_do (l : List UInt8) : ∀ (f : Nat), f <= 9 -> ∀ (want : Int) (a : Nat), a + 4 ^ f <= 1000000 -> Aw 39 [.ptr 0 0, An want, An (10 - f)] (mkS l a) (.ret (exP (Jf l f want a).1)) (mkS l (Jf l f want a).2)
  | 0, _, want, a, ha => by
    rw [Jf]
    exact Aab l want _ a (by simp at ha; omega) ⟨by simp, by simp⟩ (.inl (by simp))
  | f + 1, hf, want, a, ha => by
    have hp : 1 <= 4 ^ f := Nat.pos_of_ne_zero (by simp)
    have hpow : 4 ^ (f + 1) = 4 * 4 ^ f := by rw [Nat.pow_succ]; omega
    rw [Jf]
    by_cases hlf : B1 l a % 16 < 5
    . rw [if_pos hlf]
      exact Aab l want _ a (by omega) ⟨by omega, by omega⟩ (.inr hlf)
    rw [if_neg hlf]
    have hdeep : (10 : Int) - ((f + 1 : Nat) : Int) + 1 = 10 - (f : Nat) := by omega
    have hsub := fun (op : Int) (ts : List Int) (hts : ts.length <= 3) => sub_do l (Jf l f) (4 ^ f) (10 - ((f + 1 : Nat) : Int)) op want ⟨by omega, by omega⟩ (Agf l f) (fun t a' h' => by rw [hdeep]; exact one_do l f (by omega) t a' h') ts hts (a + 1) (by omega)
    have hn := Ht l a
    have hnx := Af2 l a (by omega)
    generalize hdp : (10 : Int) - ((f + 1 : Nat) : Int) = deep at *
    have hd : 0 <= deep /\ deep < 10 := by omega
    refine Af Tryz.func39 rfl rfl (Nat.le_of_ble_eq_true rfl) rfl (Nat.le_refl _) ?_
    repeat' (first | refine rl0 ?_ | refine rs0 (fun h => ?_) (fun h => ?_) | fail)
    refine wcb (id := 0) hnx rfl rfl rfl rfl rfl rfl rfl rfl (by repeat (first | exact Ae | refine Ab (Ac _) ?_)) rfl ?_
    generalize B1 l a = n at *
    refine wst rfl rfl trivial ?_
    refine Cq ?_
    refine Co ?_
    refine V8 (ι := Unit) (fun _ => True) (fun _ => [(0, .ptr 0 0), (1, An want), (2, An deep), (6, .ptr 1 0), (7, An n), (8, At (Hi want n))]) (fun _ => ⟨[[H5 l, An ((a + 1 : Nat) : Int)], [An 0, An 0, Fi ⟨#[]⟩, .d (.v (.slice none 0 0))]], []⟩) ?_ (fun _ _ => ?_)
    . refine Bf ?_
      refine wst rfl rfl trivial ?_
      refine wst rfl rfl trivial ?_
      refine wst rfl rfl trivial ?_
      refine Ph rfl rfl rfl ⟨rfl⟩ (fun h => ?_) (fun h => ?_)
      . repeat refine Mf rfl ?_
        refine wst rfl rfl trivial ?_
        refine wst rfl rfl trivial ?_
        refine Cq ?_
        refine ⟨(), trivial, ?_, rfl⟩
        have e : Hi want n = true := by unfold Hi; rw [h]; rfl
        rw [e]
        exact (by repeat (first | exact Ag | refine Aa rfl ?_))
      . refine wst rfl rfl trivial ?_
        refine wst rfl rfl trivial ?_
        refine wst rfl rfl trivial ?_
        refine Ph rfl rfl rfl ⟨rfl⟩ (fun h2 => ?_) (fun h2 => ?_)
        . refine wst rfl rfl trivial ?_
          refine wand rfl rfl rfl rfl ?_
          refine wst rfl rfl trivial ?_
          refine wst rfl rfl trivial ?_
          refine wst rfl rfl trivial ?_
          refine wst rfl rfl trivial ?_
          refine Cq ?_
          refine ⟨(), trivial, ?_, rfl⟩
          have e : Hi want n = decide (andZ .i64 n 128 = 0) := by unfold Hi; rw [h, h2]; rfl
          rw [e]
          exact (by repeat (first | exact Ag | refine Aa rfl ?_))
        . repeat refine Mf rfl ?_
          refine wst rfl rfl trivial ?_
          refine wst rfl rfl trivial ?_
          refine wst rfl rfl trivial ?_
          refine Cq ?_
          refine ⟨(), trivial, ?_, rfl⟩
          have e : Hi want n = false := by unfold Hi; rw [h, h2]; rfl
          rw [e]
          exact (by repeat (first | exact Ag | refine Aa rfl ?_))
    generalize Hi want n = b
    refine Co ?_
    refine Co ?_
    refine V8 (ι := Unit) (fun _ => True) (fun _ => [(0, .ptr 0 0), (1, An want), (2, An deep), (6, .ptr 1 0), (7, An n), (8, At b), (29, At false)]) (fun _ => ⟨[[H5 l, An ((a + 1 : Nat) : Int)], [An 0, An 0, Fi ⟨#[]⟩, .d (.v (.slice none 0 0))]], []⟩) ?_ (fun _ _ => ?_)
    . refine Bf ?_
      refine wst rfl rfl trivial ?_
      refine wst rfl rfl trivial ?_
      refine wst rfl rfl trivial ?_
      refine Ph rfl rfl rfl ⟨rfl⟩ (fun h => ?_) (fun h => ?_)
      . exfalso; simp at h; omega
      . refine wst rfl rfl trivial ?_
        refine wst rfl rfl ⟨by omega, by omega⟩ ?_
        refine wst rfl rfl trivial ?_
        refine wst rfl rfl trivial ?_
        refine Cq ?_
        refine ⟨(), trivial, ?_, rfl⟩
        have e : decide (n % 16 < 5) = false := by simp; omega
        exact Aa rfl (Aa rfl (Aa rfl (Aa rfl (Aa rfl (Aa rfl (Aa (show PV.d (.v (.bool (decide (n % 16 < 5)))) = _ by rw [e]) Ag))))))
    cases b
    . repeat' (first | refine rl0 ?_ | refine rs0 (fun h => ?_) (fun h => ?_) | fail)
      . have e : Cl false n = (11 + n / 16 % 6, [1, 1]) := by unfold Cl; rw [if_pos rfl,  if_pos (by simpa using h)]
        rw [e]
        refine wcb (id := 0) (hsub (11 + n / 16 % 6) [1, 1] (by decide)) rfl rfl rfl rfl rfl rfl rfl rfl (by repeat (first | exact Ae | refine Ab (Ac _) ?_)) rfl ?_
        repeat' (first | refine rl0 ?_ | refine rs0 (fun h => ?_) (fun h => ?_) | fail)
        rfl
      . rename_i g1
        have e : Cl false n = (6, [2]) := by unfold Cl; rw [if_pos rfl, if_neg (by simpa using g1), if_pos (by simpa using h)]
        rw [e]
        refine wcb (id := 0) (hsub (6) [2] (by decide)) rfl rfl rfl rfl rfl rfl rfl rfl (by repeat (first | exact Ae | refine Ab (Ac _) ?_)) rfl ?_
        repeat' (first | refine rl0 ?_ | refine rs0 (fun h => ?_) (fun h => ?_) | fail)
        rfl
      . rename_i g1 g2
        have e : Cl false n = (17 + n / 16 % 2, [2, 2]) := by unfold Cl; rw [if_pos rfl, if_neg (by simpa using g1), if_neg (by simpa using g2), if_pos (by simpa using h)]
        rw [e]
        refine wcb (id := 0) (hsub (17 + n / 16 % 2) [2, 2] (by decide)) rfl rfl rfl rfl rfl rfl rfl rfl (by repeat (first | exact Ae | refine Ab (Ac _) ?_)) rfl ?_
        repeat' (first | refine rl0 ?_ | refine rs0 (fun h => ?_) (fun h => ?_) | fail)
        rfl
      . rename_i g1 g2
        have e : Cl false n = (19, [2, 2, 2]) := by unfold Cl; rw [if_pos rfl, if_neg (by simpa using g1), if_neg (by simpa using g2), if_neg (by simpa using h)]
        rw [e]
        refine wcb (id := 0) (hsub (19) [2, 2, 2] (by decide)) rfl rfl rfl rfl rfl rfl rfl rfl (by repeat (first | exact Ae | refine Ab (Ac _) ?_)) rfl ?_
        repeat' (first | refine rl0 ?_ | refine rs0 (fun h => ?_) (fun h => ?_) | fail)
        rfl
    . repeat' (first | refine rl0 ?_ | refine rs0 (fun h => ?_) (fun h => ?_) | fail)
      . have e : Cl true n = (5, [1]) := by unfold Cl; rw [if_neg (by simp),  if_pos (by simpa using h)]
        rw [e]
        refine wcb (id := 0) (hsub (5) [1] (by decide)) rfl rfl rfl rfl rfl rfl rfl rfl (by repeat (first | exact Ae | refine Ab (Ac _) ?_)) rfl ?_
        repeat' (first | refine rl0 ?_ | refine rs0 (fun h => ?_) (fun h => ?_) | fail)
        rfl
      . rename_i g1
        have e : Cl true n = (7 + n / 16 % 4, [1, 1]) := by unfold Cl; rw [if_neg (by simp), if_neg (by simpa using g1), if_pos (by simpa using h)]
        rw [e]
        refine wcb (id := 0) (hsub (7 + n / 16 % 4) [1, 1] (by decide)) rfl rfl rfl rfl rfl rfl rfl rfl (by repeat (first | exact Ae | refine Ab (Ac _) ?_)) rfl ?_
        repeat' (first | refine rl0 ?_ | refine rs0 (fun h => ?_) (fun h => ?_) | fail)
        rfl
      . rename_i g1
        have e : Cl true n = (19, [2, 1, 1]) := by unfold Cl; rw [if_neg (by simp), if_neg (by simpa using g1), if_neg (by simpa using h)]
        rw [e]
        refine wcb (id := 0) (hsub (19) [2, 1, 1] (by decide)) rfl rfl rfl rfl rfl rfl rfl rfl (by repeat (first | exact Ae | refine Ab (Ac _) ?_)) rfl ?_
        repeat' (first | refine rl0 ?_ | refine rs0 (fun h => ?_) (fun h => ?_) | fail)
        rfl
end Go.Proofs.YtjagmmmcibdibaaGreatDoor
namespace Go.Proofs.YtjagmmmcibdibaaGreatDoor
open Go.RowKit
def Dc : List ByteArray := [⟨#[120]⟩, ⟨#[121]⟩, ⟨#[122]⟩]
theorem vars_do : Aw 7 [] ⟨[], []⟩ (.ret (Db Dc)) ⟨[], []⟩ := by
  refine Af Tryz.func7 rfl rfl (Nat.le_of_ble_eq_true rfl) rfl (Nat.le_refl _) ?_
  repeat' (first | refine rl0 ?_ | refine rs0 (fun h => ?_) (fun h => ?_) | fail)
  rfl
end Go.Proofs.YtjagmmmcibdibaaGreatDoor
namespace Go.Proofs.YtjagmmmcibdibaaGreatDoor
open Go.RowKit
def Rv (l : List UInt8) (want : Int) : Ex := (Jf l 9 want 0).1
theorem Afp (l : List UInt8) (want : Int) : Aw 13 [H5 l, An want] ⟨[], []⟩ (.ret (exP (Rv l want))) ⟨[], []⟩ := by
  refine Af Tryz.func13 rfl rfl (Nat.le_of_ble_eq_true rfl) rfl (Nat.le_refl _) ?_
  repeat' (first | refine rl0 ?_ | refine rs0 (fun h => ?_) (fun h => ?_) | fail)
  refine wcb (id := 1) (one_do l 9 (by omega) want 0 (by decide)) rfl rfl rfl rfl rfl rfl rfl rfl (by repeat (first | exact Ae | refine Ab (Ac _) ?_)) rfl ?_
  repeat' (first | refine rl0 ?_ | refine rs0 (fun h => ?_) (fun h => ?_) | fail)
  rfl
end Go.Proofs.YtjagmmmcibdibaaGreatDoor
namespace Go.Proofs.YtjagmmmcibdibaaGreatDoor
open Go.RowKit
attribute [local go_sem] Oper.semAt_some
def VisP {σ : Type} (J Jx : σ -> (Nat -> Prop) -> World -> Prop) (B : Nat -> Prop) (r : σ × Bool) (W : World) (e : Ending) (W' : World) : Prop :=
  e = .returned (.bool r.2) /\ (if r.2 = true then J r.1 B W' else Jx r.1 B W') /\ ∀ b, B b -> W'.heap[b]? = W.heap[b]?
def ExG (G : Nat -> Nat -> Prop) (w : World) (v : Value) (x : Ex) : Prop := ∃ s, v = x.val s /\ Cj G w (.sl 4 (Ic x.args)) s
structure Keeps {σ : Type} (J : σ -> (Nat -> Prop) -> World -> Prop) (G : Nat -> Nat -> Prop) (w : World) : Prop where
  cell : ∀ s B W, J s B W -> ∀ b hi, G b hi -> ∀ i < hi, W.cell? ⟨b, i, none⟩ = w.cell? ⟨b, i, none⟩
  lt : ∀ s B W, J s B W -> ∀ b, B b -> b < W.heap.size
  go : ∀ s B B' W W', J s B W -> Below W.heap.size W W' -> (∀ b, B' b -> B b \/ (W.heap.size <= b /\ b < W'.heap.size)) -> J s B' W'
theorem Keeps.below {σ : Type} {J : σ -> (Nat -> Prop) -> World -> Prop} {G : Nat -> Nat -> Prop} {w : World} (h : Keeps J G w) (s : σ) (B : Nat -> Prop) (W W' : World) (hJ : J s B W) (hb : Below W.heap.size W W') : J s B W' := h.go s B B W W' hJ hb fun _ => .inl
theorem Keeps.add {σ : Type} {J : σ -> (Nat -> Prop) -> World -> Prop} {G : Nat -> Nat -> Prop} {w : World} (h : Keeps J G w) (s : σ) (B : Nat -> Prop) (W W' : World) (b : Nat) (hJ : J s B W) (hb : Below W.heap.size W W') (h1 : W.heap.size <= b) (h2 : b < W'.heap.size) : J s (fun c => B c \/ c = b) W' :=
  h.go s B _ W W' hJ hb fun c hc => hc.elim .inl fun e => .inr (by subst e; exact ⟨h1, h2⟩)
theorem Keeps.drop {σ : Type} {J : σ -> (Nat -> Prop) -> World -> Prop} {G : Nat -> Nat -> Prop} {w : World} (h : Keeps J G w) (s : σ) (B B' : Nat -> Prop) (W : World) (hJ : J s B W) (hb : ∀ b, B' b -> B b) : J s B' W := h.go s B B' W W hJ (Below.refl _ _) fun b hB => .inl (hb b hB)
theorem argsG {G : Nat -> Nat -> Prop} {w : World} {sl : Value} {args : List Ex} (h : Cj G w (.sl 4 (Ic args)) sl) : ∃ p cap, sl = .slice p args.length cap /\ args.length <= cap /\ cap <= 9223372036854775807 /\
    ∀ (j : Nat) (a : Ex), args[j]? = some a -> ∃ b o hi s, p = some ⟨b, o, none⟩ /\ G b hi /\ o + j * 4 + 4 <= hi /\ w.cell? ⟨b, o + j * 4, none⟩ = some (.int .i64 a.op) /\ w.cell? ⟨b, o + j * 4 + 1, none⟩ = some (.int .i64 a.n) /\ w.cell? ⟨b, o + j * 4 + 2, none⟩ = some (.string a.name) /\ w.cell? ⟨b, o + j * 4 + 3, none⟩ = some s /\ Cj G w (.sl 4 (Ic a.args)) s := by
  simp only [Cj] at h
  obtain ⟨p, cap, rfl, h1, h2, h3⟩ := h
  rw [Bb] at h1
  refine ⟨p, cap, by rw [Bb], h1, h2, fun j a ha => ?_⟩
  have hlt := (List.getElem?_eq_some_iff.1 ha).1
  obtain ⟨b, o, rfl, h4, h5⟩ := h3 (by intro e; have := Bb args; rw [e] at this; simp at this; rw [<- this] at hlt; omega)
  rw [Bb] at h4
  have h6 := Iw (j := j) (e := exD a) h5 (by rw [Hn]; simp [ha])
  rw [Aev] at h6
  simp only [Aq] at h6
  obtain ⟨⟨u0, c0, r0⟩, ⟨u1, c1, r1⟩, ⟨u2, c2, r2⟩, ⟨u3, c3, r3⟩, _⟩ := h6
  simp only [Cj] at r0 r1 r2
  rw [r0.1] at c0; rw [r1.1] at c1; rw [r2.1] at c2
  exact ⟨b, o, _, u3, rfl, h4, by omega, c0, c1, c2, c3, r3⟩
set_option maxRecDepth 100000 in
set_option maxHeartbeats 4000000 in
theorem visitG {σ : Type} (step : σ -> Ex -> Nat -> σ × Bool) (J Jx : σ -> (Nat -> Prop) -> World -> Prop) (P : Ex -> Nat -> Prop) (G : Nat -> Nat -> Prop) (w : World) (l Y V : Nat) (hJ : Keeps J G w)
    (hX : ∀ s B B' W, Jx s B W -> (∀ b, B' b -> B b) -> Jx s B' W)
    (hY : ∀ s x v d B W, J s B W -> P x d -> ExG G w v x -> YieldAt Fence.wide 4 Tryz.prog l #[v, .int .i64 (d : Nat)] W (VisP J Jx B (step s x d) W))
    (hP : ∀ s x d, P x d -> (step s x d).2 = true -> d <= 100 /\ ∀ a ∈ x.args, P a (d + 1)) :
    ∀ (n : Nat) (x : Ex) (sl : Value) (d : Nat) (s : σ) (B : Nat -> Prop) (W : World), x.hgt <= n -> Cj G w (.sl 4 (Ic x.args)) sl -> P x d -> J s B W -> B Y -> B V -> Js W Y (.func (.yield l) #[] #[]) -> Js W V (.func (.func 76) #[] #[.pointer (some ⟨Y, 0, none⟩), .pointer (some ⟨V, 0, none⟩)]) ->
      Calls Tryz.prog 76 #[x.val sl, .int .i64 d, .pointer (some ⟨Y, 0, none⟩), .pointer (some ⟨V, 0, none⟩)] W (VisP J Jx B (Dt step s d x) W) := by
  intro n
  induction n with
  | zero => intro x sl d s B W h; cases x; simp [Ex.hgt] at h
  | succ n ih =>
    intro x sl d s B W hh hsl hPx hJs hBY hBV hbY hbV
    refine (callsIn_wide (n := 6)).1 ?_
    have hE : ExG G w (x.val sl) x := ⟨sl, rfl, hsl⟩
    obtain ⟨p, cap, rfl, hcap, hmax, hargs⟩ := argsG hsl
    obtain ⟨op, n0, nm, l'⟩ := x
    simp only [Ex.val, Ex.op, Ex.n, Ex.name, Ex.args] at hE hargs hcap |-
    refine callsIn_of_wp Tryz.func76 rfl trivial ?_ rfl
    simp only [Tryz.ntmps76, List.size_toArray, List.length_cons, List.length_nil, Nat.reduceAdd, Nat.reduceSub, Array.replicate_succ, Array.replicate_zero, List.push_toArray, List.append_toArray, List.nil_append, List.cons_append]
    have cY := hbY.cell
    have cV := hbV.cell
    have hsY := Bk hbY
    have hsV := Bk hbV
    obtain ⟨W1, hW1⟩ : ∃ W1, W.alloc (.cells #[.int .i64 op, .int .i64 n0, .string nm, .slice p l'.length cap] 24) = W1 := ⟨_, rfl⟩
    have hb1 : Below W.heap.size W W1 := by rw [<- hW1]; exact (Below.refl _ _).alloc (Nat.le_refl _) _
    have hrow1 : W1.heap[W.heap.size]? = some (.cells #[.int .i64 op, .int .i64 n0, .string nm, .slice p l'.length cap] 24 (0, 0)) := by rw [<- hW1]; exact heap_alloc_new W _
    have hJ1 := hJ.add s B W W1 W.heap.size hJs hb1 (Nat.le_refl _) (Bk hrow1)
    have HJ1 := Lib.hid hJ1
    have hy0 := hY s _ _ d _ W1 hJ1 hPx hE
    have HW1 := Lib.hid hW1
    have HR1 := Lib.hid hrow1
    have hkY : W1.heap[Y]? = W.heap[Y]? := hb1.block _ hsY
    have hkV : W1.heap[V]? = W.heap[V]? := hb1.block _ hsV
    have HK1 : Hid (∀ b, b < W.heap.size -> W1.heap[b]? = W.heap[b]?) := Lib.hid fun b hb => hb1.block b hb
    have HLT := Lib.hid (hJ.lt s B W hJs)
    have hP1 := hP s _ d hPx
    have HBY := Lib.hid hbY
    have HBV := Lib.hid hbV
    have HKY := Lib.hid hkY
    have HKV := Lib.hid hkV
    have HJ := Lib.hid hJ
    have HX := Lib.hid hX
    have HIH := Lib.hid ih
    have HWX := Lib.hid (Th step s d (.mk op n0 nm l'))
    have HARG := Lib.hid hargs
    have HB := Lib.hid (And.intro hBY hBV)
    have HB1 := Lib.hid hb1
    obtain ⟨r, hr⟩ : ∃ r, step s (.mk op n0 nm l') d = r := ⟨_, rfl⟩
    rw [hr] at hy0 hP1
    have HP1 := Lib.hid hP1
    rw [hr] at HWX
    obtain ⟨s1, b1⟩ := r
    obtain ⟨fn, tmps, assign, body, hy, hRd⟩ := Gq (m' := 5) hy0
    rw [<- hW1] at hy
    have HRD := Lib.hid hRd
    have HH := Lib.hid hh
    clear hW1 hb1 hrow1 hP1 hbY hbV hJ hY hP ih hr hy0 hRd hE hJ1 hargs hkY hkV hJs hBY hBV hX hsl hh
    gi_wp2_with fail
    rw [HW1.out]
    refine HRD.out.mono ?_
    rintro e w5 ⟨rfl, hj, hk5⟩
    have HK5 := Lib.hid hk5
    clear hk5 HRD hy
    cases b1 with
    | false =>
      have HJx := Lib.hid hj
      clear hj
      gi_wp2
      go_ret
      rw [if_neg (by simp)] at HWX
      refine ⟨by rw [HWX.out]; rfl, ?_, fun b hb => (HK5.out b (.inl hb)).trans (HK1.out b (HLT.out b hb))⟩
      rw [HWX.out]
      exact HX.out _ _ _ _ HJx.out fun b hb => .inl hb
    | true =>
      have HJ5 := Lib.hid hj
      have hrow5 := (HK5.out _ (.inr rfl)).trans HR1.out
      have c3 : w5.cell? ⟨W.heap.size, 3, none⟩ = some (.slice p l'.length cap) := cell_of_row _ _ _ _ _ _ hrow5
      have hz5 : W.heap.size < w5.heap.size := Bk hrow5
      have HR5 := Lib.hid hrow5
      rw [if_pos rfl] at HWX
      have hP1 := HP1.out rfl
      clear hj hrow5
      gi_wp2
      gi_loopw [17] (fun i wr => ∃ (j : Nat) (t : σ), j <= l'.length /\ i = .int .i64 j /\ J t (fun c => B c \/ c = W.heap.size) wr /\ (∀ b, (B b \/ b = W.heap.size) -> wr.heap[b]? = w5.heap[b]?) /\ I2 step t (d + 1) (l'.drop j) = Dt step s d (.mk op n0 nm l')) (fun i _ => l'.length - (intOf i).toNat)
      case atStart => exact ⟨0, s1, Nat.zero_le _, rfl, HJ5.out, fun _ _ => rfl, HWX.out.symm⟩
      case round =>
        obtain ⟨j, t, hj, rfl, hJt, hk, hwl⟩ := hrel
        have HJT := Lib.hid hJt
        have HK := Lib.hid hk
        have HWL := Lib.hid hwl
        have hFY : Js wr Y (.func (.yield l) #[] #[]) := ((hk Y (.inl HB.out.1)).trans ((HK5.out Y (.inl HB.out.1)).trans HKY.out)).trans HBY.out
        have hFV : Js wr V (.func (.func 76) #[] #[.pointer (some ⟨Y, 0, none⟩), .pointer (some ⟨V, 0, none⟩)]) := ((hk V (.inl HB.out.2)).trans ((HK5.out V (.inl HB.out.2)).trans HKV.out)).trans HBV.out
        have cYr := hFY.cell
        have cVr := hFV.cell
        have HFY := Lib.hid hFY
        have HFV := Lib.hid hFV
        have c3r : wr.cell? ⟨W.heap.size, 3, none⟩ = some (.slice p l'.length cap) := (A4 (hk _ (.inr rfl))).trans c3
        clear hJt hk hwl hFY hFV
        by_cases hlt : j < l'.length
        . obtain ⟨a, ha⟩ : ∃ a, l'[j]? = some a := ⟨_, List.getElem?_eq_getElem hlt⟩
          obtain ⟨b, o, hi, Sj, rfl, hG, hle, e0, e1, e2, e3, hSj⟩ := HARG.out j a ha
          have hcell := HJ.out.cell _ _ _ HJT.out b hi hG
          have c0 := (hcell (o + j * 4) (by omega)).trans e0
          have c1 := (hcell (o + j * 4 + 1) (by omega)).trans e1
          have c2 := (hcell (o + j * 4 + 2) (by omega)).trans e2
          have c4 := (hcell (o + j * 4 + 3) (by omega)).trans e3
          have hha : a.hgt <= n := by
            have h1 := HH.out
            have h2 := Rn (List.mem_of_getElem? ha)
            simp only [Ex.hgt] at h1
            omega
          have hsub := HIH.out a Sj (d + 1) t (fun c => B c \/ c = W.heap.size)
          have HSUB := Lib.hid hsub
          have HSJ := Lib.hid hSj
          obtain ⟨pj, cj, rfl, -⟩ := argsG hSj
          clear hsub hSj
          have hPa := hP1.2 a (List.mem_of_getElem? ha)
          have hd100 := hP1.1
          have HWD := Lib.hid (Q0 step t (d + 1) l' j a ha)
          have hz := Fg c0
          clear e0 e1 e2 e3 ha hcell hG
          obtain ⟨oa, na, nma, la⟩ := a
          simp only [Ex.op, Ex.n, Ex.name, Ex.args] at c0 c1 c2 c4
          have hV2 := Fg cVr
          have hw1 : IntKind.i64.wrap ((d : Int) + 1) = ((d + 1 : Nat) : Int) := by rw [IntKind.wrap_i64]; omega
          gi_wp2_with fail
          obtain ⟨W6, hW6⟩ : ∃ W6, wr.alloc (.cells #[.int .i64 oa, .int .i64 na, .string nma, .slice pj la.length cj] 24) = W6 := ⟨_, rfl⟩
          have hb6 : Below wr.heap.size wr W6 := by rw [<- hW6]; exact (Below.refl _ _).alloc (Nat.le_refl _) _
          have hlt6 := HJ.out.lt _ _ _ HJT.out
          have HK6 : Hid (∀ b, (B b \/ b = W.heap.size) -> W6.heap[b]? = wr.heap[b]?) := Lib.hid fun b hb => hb6.block b (hlt6 b hb)
          have hcall := HSUB.out W6 hha HSJ.out hPa (HJ.out.below _ _ _ _ HJT.out hb6) (.inl HB.out.1) (.inl HB.out.2)
            ((HK6.out Y (.inl HB.out.1)).trans HFY.out) ((HK6.out V (.inl HB.out.2)).trans HFV.out)
          rw [hW6]
          obtain ⟨⟨t6, b6⟩, hr6⟩ : ∃ r, Dt step t (d + 1) (.mk oa na nma la) = r := ⟨_, rfl⟩
          rw [hr6] at hcall
          have HWD' := HWD
          rw [hr6] at HWD'
          have HC := Lib.hid hcall
          clear hcall hr6 hb6 HWD hlt6
          refine ⟨trivial, (callsIn_wide.2 (show Calls Tryz.prog 76 #[.agg #[.int .i64 oa, .int .i64 na, .string nma, .slice pj la.length cj], .int .i64 ((d : Int) + 1), .pointer (some ⟨Y, 0, none⟩), .pointer (some ⟨V, 0, none⟩)] W6 _ from HC.out)).mono ?_⟩
          rintro e w7 ⟨rfl, hj7, hk7⟩
          have HK7 : Hid (∀ b, (B b \/ b = W.heap.size) -> w7.heap[b]? = w5.heap[b]?) := Lib.hid fun b hb => (hk7 b hb).trans ((HK6.out b hb).trans (HK.out b hb))
          clear hk7 HC hW6 hw1
          cases b6 with
          | false =>
            have HJ7 := Lib.hid hj7
            clear hj7
            gi_wp2
            go_ret
            have h := HWD'.out
            rw [if_neg (by simp), HWL.out] at h
            rw [h]
            exact ⟨rfl, HX.out _ _ _ _ HJ7.out fun b hb => .inl hb, fun b hb => (HK7.out b (.inl hb)).trans ((HK5.out b (.inl hb)).trans (HK1.out b (HLT.out b hb)))⟩
          | true =>
            have HJ7 := Lib.hid hj7
            clear hj7
            gi_wp2
            go_round
            case rel => exact ⟨j + 1, t6, by omega, by go_num, HJ7.out, HK7.out, (HWD'.out.trans (if_pos trivial)).symm.trans HWL.out⟩
            case measure => simp [intOf]; omega
        . obtain rfl : j = l'.length := by omega
          gi_wp2
          go_ret
          have h := HWL.out
          rw [List.drop_length, I2] at h
          rw [<- h]
          exact ⟨rfl, HJ.out.drop _ _ _ _ HJT.out fun b hb => .inl hb, fun b hb => (HK.out b (.inl hb)).trans ((HK5.out b (.inl hb)).trans (HK1.out b (HLT.out b hb)))⟩
end Go.Proofs.YtjagmmmcibdibaaGreatDoor
namespace Go.Proofs.YtjagmmmcibdibaaGreatDoor
open Go.RowKit
attribute [local go_sem] Oper.semAt_some
def NodP {σ : Type} (J Jx : σ -> (Nat -> Prop) -> World -> Prop) (B : Nat -> Prop) (r : σ × Bool) (e : Ending) (W' : World) : Prop :=
  e = .returned (.tuple #[]) /\ (if r.2 = true then J r.1 B W' else Jx r.1 B W')
set_option maxRecDepth 100000 in
set_option maxHeartbeats 4000000 in
theorem nodes1G {σ : Type} (step : σ -> Ex -> Nat -> σ × Bool) (J Jx : σ -> (Nat -> Prop) -> World -> Prop) (P : Ex -> Nat -> Prop) (G : Nat -> Nat -> Prop) (w : World) (l XB : Nat) (hJ : Keeps J G w)
    (hX : ∀ s B B' W, Jx s B W -> (∀ b, B' b -> B b) -> Jx s B' W)
    (hY : ∀ s x v d B W, J s B W -> P x d -> ExG G w v x -> YieldAt Fence.wide 4 Tryz.prog l #[v, .int .i64 (d : Nat)] W (VisP J Jx B (step s x d) W))
    (hP : ∀ s x d, P x d -> (step s x d).2 = true -> d <= 100 /\ ∀ a ∈ x.args, P a (d + 1))
    (x : Ex) (sl : Value) (s : σ) (B : Nat -> Prop) (W0 : World) (ty : TypeId) (hsl : Cj G w (.sl 4 (Ic x.args)) sl) (hPx : P x 1) (hJs : J s B W0) (hb : W0.heap[XB]? = some (.cells (x.val sl).cells ty (0, 0))) :
    Calls Tryz.prog 75 #[.func (.yield l) #[] #[], .pointer (some ⟨XB, 0, none⟩)] W0 (NodP J Jx B (Dt step s 1 x)) := by
  have hmf : ∀ (fn : Fn) (first cap : Array Value) (w : World), (Instr.makeFunc fn first cap).run Tryz.prog w = .ok (.func fn first cap) w := fun _ _ _ _ => rfl
  have HV := Lib.hid (visitG step J Jx P G w l W0.heap.size (W0.heap.size + 1) hJ hX hY hP x.hgt x sl 1 s (fun b => B b \/ b = W0.heap.size \/ b = W0.heap.size + 1))
  have HSL := Lib.hid hsl
  obtain ⟨p, cap, rfl, hcap, hmax, -⟩ := argsG hsl
  have HJ := Lib.hid hJ
  have HJS := Lib.hid hJs
  have HX := Lib.hid hX
  obtain ⟨op, n, nm, args⟩ := x
  simp only [Ex.val, Ex.op, Ex.n, Ex.name, Ex.args, Value.cells] at hb hcap
  have c0 : W0.cell? ⟨XB, 0, none⟩ = _ := cell_of_row _ _ _ _ _ _ hb
  have c1 : W0.cell? ⟨XB, 1, none⟩ = _ := cell_of_row _ _ _ _ _ _ hb
  have c2 : W0.cell? ⟨XB, 2, none⟩ = _ := cell_of_row _ _ _ _ _ _ hb
  have c3 : W0.cell? ⟨XB, 3, none⟩ = _ := cell_of_row _ _ _ _ _ _ hb
  simp only [List.getElem?_toArray, List.getElem?_cons_zero, List.getElem?_cons_succ] at c0 c1 c2 c3
  have hz := Bk hb
  clear hJ hY hP hb hsl hJs hX
  go_enter Tryz.func75, Tryz.ntmps75
  go_wp2_with fail
  refine (HV.out _ (Nat.le_refl _) HSL.out hPx (HJ.out.go _ _ _ _ _ HJS.out ?_ ?_) (.inr (by first | exact .inl rfl | exact .inl trivial)) (.inr (by first | exact .inr rfl | exact .inr trivial)) (Ai (Ay rfl)) (Ay (by simp))).mono ?_
  . exact ((Below.refl _ _).alloc (Nat.le_refl _) _).alloc (by simp) _
  . rintro b (hb | rfl | rfl)
    . exact .inl hb
    . exact .inr ⟨Nat.le_refl _, by simp; omega⟩
    . exact .inr ⟨by omega, by simp⟩
  rintro e w5 ⟨rfl, hj, -⟩
  have HJ5 := Lib.hid hj
  clear hj
  go_wp2
  go_end0
  refine ⟨rfl, ?_⟩
  have h := HJ5.out
  split at h
  . rename_i hc; rw [if_pos hc]; exact HJ.out.drop _ _ _ _ h fun b hb => .inl hb
  . rename_i hc; rw [if_neg hc]; exact HX.out _ _ _ _ h fun b hb => .inl hb
end Go.Proofs.YtjagmmmcibdibaaGreatDoor
namespace Go.Proofs.YtjagmmmcibdibaaGreatDoor
open Go.RowKit
def Fm (K : Kx) (W : World) (b : Nat) : Prop := b < W.heap.size /\ b ∉ K.β /\ ∀ (t : Nat) (c : TokC) (lo : Nat), K.τ[t]? = some c -> TokC.blk c ≠ some (b, lo)
theorem Fm.step {K K' : Kx} {W W' : World} {b : Nat} (h : Fm K W b) (hs : Step K K' W W') : Fm K' W' b /\ W'.heap[b]? = W.heap[b]? := by
  obtain ⟨h1, h2, h3⟩ := h
  refine ⟨⟨Nat.lt_of_lt_of_le h1 hs.size, fun hm => ?_, fun t c lo ht hc => ?_⟩, hs.blocks b h1 h2 h3⟩
  . rcases hs.βnew _ hm with h4 | h4
    . exact h2 h4
    . omega
  . rcases hs.τnew t c _ lo ht hc with h4 | ⟨t0, c0, lo0, h4, h5, _⟩
    . omega
    . exact h3 t0 c0 lo0 h4 h5
theorem Fm.put {K : Kx} {W : World} {b l : Nat} {o : Obj} (h : Fm K W b) : Fm K (W.putObj l o) b := ⟨by rw [World.putObj_size]; exact h.1, h.2⟩
theorem Fm.new {K : Kx} {S : PS} {W W' : World} {b : Nat} (hI : Inv K S W) (h1 : W.heap.size <= b) (h2 : b < W'.heap.size) : Fm K W' b :=
  ⟨h2, fun hm => by have := hI.boxMem hm; omega, fun t c lo ht hc => by have := hI.tokLt ht hc; omega⟩
theorem Fm.cut {K : Kx} {W : World} {b n m : Nat} (h : Fm K W b) : Fm (K.cut n m) W b :=
  ⟨h.1, fun hm => h.2.1 (List.mem_of_mem_take hm), fun t c lo ht hc => h.2.2 t c lo (C9 ht).1 hc⟩
theorem Nj {b0 : Nat} {K : Kx} {w : World} : ∀ {D : List DefP} {ds : List Deferred}, D8 b0 K w D ds -> ∀ d ∈ ds, d.target ≠ .collected w.heap.size
  | [], _, h, d, hd => by rw [show _ = [] from h] at hd; cases hd
  | .mark :: D, _, ⟨k, r, e, h1, _, h2⟩, d, hd => by
    subst e
    rcases List.mem_cons.1 hd with rfl | hd
    . intro e
      have e := Target.collected.inj e
      have hlt := (Array.getElem?_eq_some_iff.1 h1.2.1).1
      omega
    . exact Nj h2 d hd
  | .call _ _ :: D, _, ⟨cs, r, e, _, h2⟩, d, hd => by
    subst e
    rcases List.mem_cons.1 hd with rfl | hd
    . intro e; cases e
    . exact Nj h2 d hd
theorem In {b0 : Nat} {K : Kx} {w : World} : ∀ {D : List DefP} {ds : List Deferred}, D8 b0 K w D ds -> ∀ d ∈ ds, d.target ≠ .collected (w.heap.size + 1)
  | [], _, h, d, hd => by rw [show _ = [] from h] at hd; cases hd
  | .mark :: D, _, ⟨k, r, e, h1, _, h2⟩, d, hd => by
    subst e
    rcases List.mem_cons.1 hd with rfl | hd
    . intro e
      have e := Target.collected.inj e
      have hlt := (Array.getElem?_eq_some_iff.1 h1.2.1).1
      omega
    . exact In h2 d hd
  | .call _ _ :: D, _, ⟨cs, r, e, _, h2⟩, d, hd => by
    subst e
    rcases List.mem_cons.1 hd with rfl | hd
    . intro e; cases e
    . exact In h2 d hd
def rndQ {σ : Type} (r : σ × Bool) (Sx : σ -> PS) (xc : σ -> Code) (e : Exit) (_F : Nat -> PV) (S' : PS) : Prop :=
  ((e = .normal /\ r.2 = true) \/ (r.2 = false /\ ((e = .ret /\ xc r.1 = .ret) \/ ∃ id, e = .exit id /\ xc r.1 = .exit id))) /\
  S'.cut (Sx r.1).boxes.length (Sx r.1).toks.length = Sx r.1 /\ (S'.boxes.take (Sx r.1).boxes.length).all (fun c => PV.ltL (Sx r.1).boxes.length (Sx r.1).toks.length c) = true
def exitQ (Q : Exit -> (Nat -> PV) -> PS -> List DefP -> Prop) (F : Nat -> PV) (S : PS) (D : List DefP) : Code -> Prop
  | .ret => Q .ret F S D
  | .exit id => Q (.exit id) F S D
  | _ => False
set_option maxHeartbeats 1000000 in
theorem pd_nodes {σ : Type} (step : σ -> Ex -> Nat -> σ × Bool) (Sx : σ -> PS) (xc : σ -> Code) (ok : σ -> Prop) (P : Ex -> Nat -> Prop) {N : Nat} {f : Operand} {p0 p1 : Nat} {assign body : Code} {Q : Exit -> (Nat -> PV) -> PS -> List DefP -> Prop} {F : Nat -> PV} {S : PS} {D : List DefP} {id : Nat} {x : Ex} (s0 : σ)
    (hf : evP F f = .fn 75 [.ptr id 0]) (hbox : S.boxes[id]? = some (exP x).parts) (hS : S = Sx s0) (hok0 : ok s0) (hok : ∀ s y d, P y d -> ok s -> ok (step s y d).1) (hmon : ∀ s, (Sx s0).boxes.length <= (Sx s).boxes.length /\ (Sx s0).toks.length <= (Sx s).toks.length)
    (hP : ∀ s y d, P y d -> (step s y d).2 = true -> d <= 100 /\ ∀ a ∈ y.args, P a (d + 1)) (hPx : P x 1)
    (hround : ∀ s y d, P y d -> ok s -> PW Tryz.prog N assign (M5 (PW Tryz.prog N body (rndQ (step s y d) Sx xc)) (fun _ _ _ => False)) (Cd N (some p1) (.d (.v (.int .i64 (d : Nat)))) (Cd N (some p0) (exP y) F)) (Sx s))
    (hend : (Dt step s0 1 x).2 = true -> ok (Dt step s0 1 x).1 -> Q .normal F (Sx (Dt step s0 1 x).1) (.mark :: D))
    (hstop : (Dt step s0 1 x).2 = false -> ok (Dt step s0 1 x).1 -> exitQ Q F (Sx (Dt step s0 1 x).1) (.mark :: D) (xc (Dt step s0 1 x).1)) : PD Tryz.prog N (.rangeFunc f #[p0, p1] assign body) Q F S D := by
  subst hS
  refine ⟨fun b0 K w a hb hI hF hD => wpIn_wide (n := 6).1 ?_⟩
  have hfv := hF.ev f
  rw [hf] at hfv
  simp only [Rep, Ap] at hfv
  obtain ⟨cs, hfe, u, us, rfl, ⟨b, hβ, rfl⟩, rfl⟩ := hfv
  refine Da rfl (by omega) hfe trivial (enters_of Tryz.func75 (by kernel_rfl) rfl) ?_
  intro ρ hr
  obtain ⟨c, hc, hlt, C, ty, hC, hcC, hone⟩ := hI.boxLt hβ
  rw [hbox] at hc; cases hc
  simp only [PV.parts, Ap] at hcC
  obtain ⟨u0, l0, e0, r0, u1, l1, rfl, r1, u2, l2, rfl, r2, sl, l3, rfl, r3, rfl⟩ := hcC
  have r0 := Cb r0
  have r1 := Cb r1
  have r2 := Cb r2
  subst r0; subst r1; subst r2
  simp only [Rep] at r3
  obtain ⟨mk, hmk⟩ : ∃ mk, w.heap.size = mk := ⟨_, rfl⟩
  obtain ⟨W0, hW0⟩ : ∃ W0, (w.alloc (.deferred (some []))).alloc (.loop (ρ .ready none)) = W0 := ⟨_, rfl⟩
  have hB0 : Below w.heap.size w W0 := by rw [<- hW0]; exact ((Below.refl _ _).alloc (Nat.le_refl _) _).alloc (by simp) _
  have hm0 : W0.heap[mk]? = some (.deferred (some [])) := by rw [<- hW0, <- hmk]; exact Ai (Ay rfl)
  have hl0 : W0.heap[mk + 1]? = some (.loop (ρ .ready none)) := by rw [<- hW0, <- hmk]; exact Ay (by simp)
  rw [hmk] at hr |-
  rw [hW0]
  obtain ⟨hI0, hs0⟩ := hI.below hB0
  let J : σ -> (Nat -> Prop) -> World -> Prop := fun s B W => ∃ K', Step K K' w W /\ Inv K' (Sx s) W /\ W.heap[mk + 1]? = some (.loop (ρ .ready none)) /\ W.heap[mk]? = some (.deferred (some [])) /\ Fm K' W (mk + 1) /\ Fm K' W mk /\ ok s /\ ∀ b, B b -> Fm K' W b /\ b ≠ mk + 1
  let Jx : σ -> (Nat -> Prop) -> World -> Prop := fun s B W => ∃ K', Step K K' w W /\ Inv K' (Sx s) W /\ W.heap[mk + 1]? = some (.loop (ρ .done (some (xc s)))) /\ W.heap[mk]? = some (.deferred (some [])) /\ Fm K' W (mk + 1) /\ Fm K' W mk /\ ok s /\ (xc s = .ret \/ ∃ id, xc s = .exit id)
  have hJ : Keeps J (K.good w) w := by
    refine ⟨?_, ?_, ?_⟩
    . rintro s B W ⟨K', hs, _⟩ b' hi hg j hj
      exact hs.goodCell hg j hj
    . rintro s B W ⟨K', _, _, _, _, _, _, _, hB⟩ b' hb'
      exact (hB b' hb').1.1
    . rintro s B B' W W' ⟨K', hs, hI', hl, hm, fl, fm, hks, hB⟩ hbe hnew
      obtain ⟨i1, s1⟩ := hI'.below hbe
      refine ⟨K', hs.trans hI s1, i1, (hbe.block _ fl.1).trans hl, (hbe.block _ fm.1).trans hm, (fl.step s1).1, (fm.step s1).1, hks, fun b' hb' => ?_⟩
      rcases hnew b' hb' with h | h
      . exact ⟨((hB b' h).1.step s1).1, (hB b' h).2⟩
      . exact ⟨Fm.new hI' h.1 h.2, by have := fl.1; omega⟩
  have hX : ∀ s B B' W, Jx s B W -> (∀ b, B' b -> B b) -> Jx s B' W := fun _ _ _ _ h _ => h
  have hYld : ∀ s y v d B W, J s B W -> P y d -> ExG (K.good w) w v y -> YieldAt Fence.wide 4 Tryz.prog (mk + 1) #[v, .int .i64 (d : Nat)] W (VisP J Jx B (step s y d) W) := by
    rintro s y v d B W ⟨K', hs, hI', hl, hm, fl, fm, hks, hB⟩ hPy ⟨sy, rfl, hsy⟩
    refine hr #[_, _] W _ rfl hl ?_
    have hF1 : FrameRep K' W N F { a with defers := [] } := ⟨hF.size, fun t => Rep.step hs _ _ (hF.rep t)⟩
    have hry : Rep K' W (exP y) (y.val sy) := by
      simp only [exP, Ex.val, Rep]
      refine ⟨_, rfl, ?_⟩
      simp only [Ap]
      exact ⟨_, _, rfl, D6 rfl, _, _, rfl, D6 rfl, _, _, rfl, D6 rfl, _, _, rfl, by simpa only [Rep] using Cj.step hs hsy, rfl⟩
    have hF2 := (hF1.put (dst := some p0) (Step.refl K' W) hry).put (dst := some p1) (r := .d (.v (.int .i64 (d : Nat)))) (Step.refl K' W) (D6 rfl)
    refine wpIn_mono ((hround s y d hPy hks).run (some (mk + 1)) _ K' W _ hI' (by simpa [Act.put] using hF2)) ?_
    rintro e a1 w1 ⟨K2, F2, S2, s2, i2, f2, d2, q2⟩
    cases e with
    | normal =>
      obtain ⟨fl2, el2⟩ := fl.step s2
      obtain ⟨fm2, em2⟩ := fm.step s2
      have hl2 := el2.trans hl
      refine ⟨hl2, ?_⟩
      have i3 := i2.putO (o' := .loop (ρ .busy none)) hl2 rfl rfl
      refine wpIn_mono (PW.run q2 (some (mk + 1)) _ K2 _ a1 i3 (f2.putO hl2 rfl rfl)) ?_
      rintro e4 a4 w4 ⟨K4, F4, S4, s4, i4, _, _, hq1, hq2, hq3⟩
      obtain ⟨fl4, el4⟩ := (fl2.put (o := .loop (ρ .busy none)) (l := mk + 1)).step s4
      obtain ⟨fm4, em4⟩ := (fm2.put (o := .loop (ρ .busy none)) (l := mk + 1)).step s4
      have hl4 : w4.heap[mk + 1]? = some (.loop (ρ .busy none)) := el4.trans (World.putObj_heap_same fl2.1)
      have hm4 : w4.heap[mk]? = some (.deferred (some [])) := em4.trans ((World.putObj_heap_other (by omega)).trans (em2.trans hm))
      have hcut := i4.cut hq3
      rw [hq2] at hcut
      have sK2 : Step K K2 w (w1.putObj (mk + 1) (.loop (ρ .busy none))) := (hs.trans hI s2).putO hl2 rfl rfl (by omega)
      have sK4 : Step K (K4.cut (Sx (step s y d).1).boxes.length (Sx (step s y d).1).toks.length) w w4 := C8 hI (sK2.trans hI s4) (hmon _).1 (hmon _).2
      have hkeep : ∀ (ob : Obj) (b' : Nat), B b' -> (w4.putObj (mk + 1) ob).heap[b']? = W.heap[b']? := fun ob b' hb' => by
        obtain ⟨g1, g2⟩ := hB b' hb'
        obtain ⟨g3, g4⟩ := g1.step s2
        obtain ⟨_, g6⟩ := (g3.put (o := .loop (ρ .busy none)) (l := mk + 1)).step s4
        exact (World.putObj_heap_other g2).trans (g6.trans ((World.putObj_heap_other g2).trans g4))
      rcases hq1 with ⟨rfl, hb1⟩ | ⟨hb1, ⟨rfl, hxc⟩ | ⟨idx, rfl, hxc⟩⟩
      . refine ⟨hl4, by rw [hb1], ?_, hkeep _⟩
        rw [if_pos hb1]
        refine ⟨_, sK4.putO hl4 rfl rfl (by omega), hcut.putO hl4 rfl rfl, World.putObj_heap_same fl4.1, (World.putObj_heap_other (by omega)).trans hm4, fl4.cut.put, fm4.cut.put, hok s y d hPy hks, fun b' hb' => ?_⟩
        obtain ⟨g1, g2⟩ := hB b' hb'
        obtain ⟨g3, _⟩ := g1.step s2
        exact ⟨((g3.put (o := .loop (ρ .busy none)) (l := mk + 1)).step s4).1.cut.put, g2⟩
      . refine ⟨hl4, by rw [hb1], ?_, hkeep _⟩
        rw [if_neg (by rw [hb1]; simp)]
        exact ⟨_, sK4.putO hl4 rfl rfl (by omega), hcut.putO hl4 rfl rfl, by rw [hxc]; exact World.putObj_heap_same fl4.1, (World.putObj_heap_other (by omega)).trans hm4, fl4.cut.put, fm4.cut.put, hok s y d hPy hks, .inl hxc⟩
      . refine ⟨hl4, by rw [hb1], ?_, hkeep _⟩
        rw [if_neg (by rw [hb1]; simp)]
        exact ⟨_, sK4.putO hl4 rfl rfl (by omega), hcut.putO hl4 rfl rfl, by rw [hxc]; exact World.putObj_heap_same fl4.1, (World.putObj_heap_other (by omega)).trans hm4, fl4.cut.put, fm4.cut.put, hok s y d hPy hks, .inr ⟨idx, hxc⟩⟩
    | ret => exact q2.elim
    | exit id => exact q2.elim
    | goto l => exact q2.elim
    | panic c => exact q2.elim
    | outgrown => exact q2.elim
  have hb' : W0.heap[b]? = some (.cells (x.val sl).cells ty (0, 0)) := by
    rw [hB0.block b hlt, hC]
    have : C = (x.val sl).cells := by apply Array.ext'; rw [e0]; rfl
    rw [this]
  have hJ0 : J s0 (fun _ => False) W0 := ⟨K, hs0, hI0, hl0, hm0, Fm.new hI (by omega) (Array.getElem?_eq_some_iff.1 hl0).1, Fm.new hI (by omega) (Array.getElem?_eq_some_iff.1 hm0).1, hok0, fun _ h => h.elim⟩
  refine (callsIn_wide.2 (nodes1G step J Jx P (K.good w) w (mk + 1) b hJ hX hYld hP x sl s0 (fun _ => False) W0 ty r3 hPx hJ0 hb')).mono ?_
  have hmks := Nj hD
  rw [hmk] at hmks
  rintro e W ⟨rfl, hj⟩
  by_cases hw : (Dt step s0 1 x).2 = true
  . rw [if_pos hw] at hj
    obtain ⟨K', hs, hI', hl, hm, fl, fm, hks, _⟩ := hj
    refine .inl ⟨hl, K', F, _, _, hs.putO hl rfl rfl (by omega), hI'.putO hl rfl rfl, ?_, ?_, hend hw hks⟩
    . exact ⟨hF.size, fun t => Rep.putO hl rfl rfl _ _ (Rep.step hs _ _ (hF.rep t))⟩
    . refine ⟨mk, a.defers, rfl, ⟨by omega, (World.putObj_heap_other (by omega)).trans hm, fm.2⟩, hmks, ?_⟩
      exact (hD.step hs).putO hl rfl rfl fun d hd => by have := In hD d hd; rw [hmk] at this; exact this
  . have hw' : (Dt step s0 1 x).2 = false := by simpa using hw
    rw [if_neg hw] at hj
    obtain ⟨K', hs, hI', hl, hm, fl, fm, hks, hxc⟩ := hj
    refine .inr ⟨_, hl, ?_⟩
    have hq := hstop hw' hks
    have fin : ∀ e, (∀ a' w', Q e F (Sx (Dt step s0 1 x).1) (.mark :: D) -> a'.tmps = a.tmps -> a'.defers = { target := .collected mk, args := #[] } :: a.defers -> w' = W.putObj (mk + 1) (.loop (ρ .exhausted (some (xc (Dt step s0 1 x).1)))) -> QD b0 K w N Q e a' w') := by
      rintro e ⟨tm, df⟩ w' hq rfl rfl rfl
      refine ⟨K', F, _, _, hs.putO hl rfl rfl (by omega), hI'.putO hl rfl rfl, ?_, ?_, hq⟩
      . exact ⟨hF.size, fun t => Rep.putO hl rfl rfl _ _ (Rep.step hs _ _ (hF.rep t))⟩
      . refine ⟨mk, a.defers, rfl, ⟨by omega, (World.putObj_heap_other (by omega)).trans hm, fm.2⟩, hmks, ?_⟩
        exact (hD.step hs).putO hl rfl rfl fun d hd => by have := In hD d hd; rw [hmk] at this; exact this
    rcases hxc with hxc | ⟨idx, hxc⟩
    . rw [hxc] at hq fin |-
      exact wpIn_ret (fin .ret _ _ hq rfl rfl rfl)
    . rw [hxc] at hq fin |-
      exact wpIn_exit (fin (.exit idx) _ _ hq rfl rfl rfl)
end Go.Proofs.YtjagmmmcibdibaaGreatDoor
namespace Go.Proofs.YtjagmmmcibdibaaGreatDoor
open Go.RowKit
mutual
def addX (l : List ByteArray) : Ex -> List ByteArray
  | .mk o _ s a => Adp (if o = 2 /\ Je l s = false then l ++ [s] else l) a
def Adp (l : List ByteArray) : List Ex -> List ByteArray
  | [] => l
  | x :: r => Adp (addX l x) r
end
@[reducible] def rowS (l : List ByteArray) : RTok := ⟨l.length, 1, l.map strE, 9⟩
end Go.Proofs.YtjagmmmcibdibaaGreatDoor
namespace Go.Proofs.YtjagmmmcibdibaaGreatDoor
open Go.RowKit
def Tc (vars : List ByteArray) (x : Ex) : Int × Int := if Bp x ≠ 0 then (0, 350) else if A6 vars x = 0 then (0, 351) else (A6 vars x, 0)
mutual
theorem Te : ∀ (x : Ex) (left d : Nat), (vis left d x).isSome = true -> x.fits = true
  | .mk o n s l, left, d, h => by
    rw [vis] at h
    split at h
    . simp at h
    . rename_i hc
      simp only [not_or] at hc
      have hp : Cc (.mk o n s l) = true := by simpa using hc.2.2
      simp only [Cc, Bool.and_eq_true, decide_eq_true_eq] at hp
      simp only [Ex.fits, Bool.and_eq_true, decide_eq_true_eq]
      exact ⟨hp.1.1.1.1, Wr l _ _ h⟩
theorem Wr : ∀ (l : List Ex) (left d : Nat), (Mv left d l).isSome = true -> Xs l = true
  | [], _, _, _ => rfl
  | x :: r, left, d, h => by
    rw [Mv] at h
    cases e : vis left d x with
    | none => rw [e] at h; simp at h
    | some k =>
      rw [e] at h
      simp only [Xs, Bool.and_eq_true]
      exact ⟨Te x left d (by rw [e]; rfl), Wr r _ _ h⟩
end
theorem Abn {x : Ex} (h : Bp x = 0) : x.fits = true := by
  unfold Bp Mu at h
  split at h
  . exact Te x _ _ (by assumption)
  . omega
set_option maxHeartbeats 1000000 in
theorem type_do (vars : List ByteArray) (x : Ex) (hs : x.small) : Aw 18 [exP x, Db vars] ⟨[], []⟩ (.ret (.tup [An (Tc vars x).1, An (Tc vars x).2])) ⟨[], []⟩ := by
  refine Af Tryz.func18 rfl rfl (Nat.le_of_ble_eq_true rfl) rfl (Nat.le_refl _) ?_
  repeat' (first | refine rl0 ?_ | refine rs0 (fun h => ?_) (fun h => ?_) | fail)
  refine Gh (Ea x hs) rfl rfl rfl rfl rfl (by repeat (first | exact Ae | refine Ab (Ac _) ?_)) ?_
  repeat' (first | refine rl0 ?_ | refine rs0 (fun h => ?_) (fun h => ?_) | fail)
  . rw [show Tc vars x = (0, Bp x) from by unfold Tc Bp at *; split <;> simp_all]
  have hc : Bp x = 0 := by simpa using h
  refine Gh (Ll vars x.hgt x (Nat.le_refl _) (Abn hc)) rfl rfl rfl rfl rfl (by repeat (first | exact Ae | refine Ab (Ac _) ?_)) ?_
  repeat' (first | refine rl0 ?_ | refine rs0 (fun h => ?_) (fun h => ?_) | fail)
  . rw [show Tc vars x = (0, 351) from by simp_all [Tc]]
  . rw [show Tc vars x = (A6 vars x, 0) from by simp_all [Tc]]
theorem E0 (x : Ex) : Bp x = 0 <-> Mu x = true := by unfold Bp; split <;> simp_all
end Go.Proofs.YtjagmmmcibdibaaGreatDoor
namespace Go.Proofs.YtjagmmmcibdibaaGreatDoor
open Go.RowKit
def Ok (x : Ex) : List ByteArray × Int := if Bp x = 0 then (addX [] x, 0) else ([], 350)
end Go.Proofs.YtjagmmmcibdibaaGreatDoor
namespace Go.Proofs.YtjagmmmcibdibaaGreatDoor
open Go.RowKit
def Un {α : Type} (n : Nat) (f : Nat -> α) : α := match n with
  | 0 => f 0
  | k + 1 => f (Nat.succ k)
theorem Uo {α : Type} (n : Nat) (f : Nat -> α) : Un n f = f n := by cases n <;> rfl
def Ae2 {α : Type} (z : Int) (f : Int -> α) : α := match z with
  | .ofNat n => Un n fun n => f (.ofNat n)
  | .negSucc n => Un n fun n => f (.negSucc n)
theorem Ae3 {α : Type} (z : Int) (f : Int -> α) : Ae2 z f = f z := by cases z <;> simp only [Ae2, Uo]
def forceB {α : Type} (b : Bool) (f : Bool -> α) : α := match b with
  | true => f true
  | false => f false
theorem Ae1 {α : Type} (z : Bool) (f : Bool -> α) : forceB z f = f z := by cases z <;> rfl
def Ob {α : Type} (p : PV) (f : PV -> α) : α := match p with
  | .d c => match c with
    | .v x => match x with
      | .int k z => Ae2 z fun z => f (.d (.v (.int k z)))
      | .bool b => forceB b fun b => f (.d (.v (.bool b)))
      | x => f (.d (.v x))
    | .sl k l => f (.d (.sl k l))
  | p => f p
theorem Ik {α : Type} (p : PV) (f : PV -> α) : Ob p f = f p := by
  unfold Ob
  split
  . split
    . split
      . rw [Ae3]
      . rw [Ae1]
      . rfl
    . rfl
  . rfl
def Zn {α : Type} (l : List PV) (f : List PV -> α) : α := match l with
  | [] => f []
  | x :: r => Ob x fun x => Zn r fun r => f (x :: r)
theorem Ul {α : Type} : ∀ (l : List PV) (f : List PV -> α), Zn l f = f l
  | [], _ => rfl
  | x :: r, f => by unfold Zn; rw [Ik, Ul r]
def Rh {α : Type} (l : List (List PV)) (f : List (List PV) -> α) : α := match l with
  | [] => f []
  | x :: r => Zn x fun x => Rh r fun r => f (x :: r)
theorem P6 {α : Type} : ∀ (l : List (List PV)) (f : List (List PV) -> α), Rh l f = f l
  | [], _ => rfl
  | x :: r, f => by unfold Rh; rw [Ul, P6 r]
def Zo {α β : Type} (l : List β) (f : List β -> α) : α := match l with
  | [] => f []
  | x :: r => Zo r fun r => f (x :: r)
theorem Um {α β : Type} : ∀ (l : List β) (f : List β -> α), Zo l f = f l
  | [], _ => rfl
  | x :: r, f => by unfold Zo; rw [Um r]
def Ri {α : Type} (l : List RTok) (f : List RTok -> α) : α := match l with
  | [] => f []
  | ⟨v, k, l, e⟩ :: r => Un v fun v => Zo l fun l => Ri r fun r => f (⟨v, k, l, e⟩ :: r)
theorem P7 {α : Type} : ∀ (l : List RTok) (f : List RTok -> α), Ri l f = f l
  | [], _ => rfl
  | ⟨v, k, l, e⟩ :: r, f => by unfold Ri; rw [Uo, Um, P7 r]
def Zp {α : Type} (b : Bool) (S : PS) (f : PS -> α) : α := match b with
  | true => Rh S.boxes fun bs => Ri S.toks fun ts => f ⟨bs, ts⟩
  | false => f S
theorem Up {α : Type} (b : Bool) (S : PS) (f : PS -> α) : Zp b S f = f S := by
  unfold Zp
  split
  . rw [P6, P7]
  . rfl
def E5 (T : Nat -> TyI) (F : Nat -> PV) (S : PS) : Op -> Bool
  | .binOp op _ x y _ => match evP F x, evP F y with
    | .d (.v (.int k a)), .d (.v (.int _ b)) => match op with
      | .add => decide (IntKind.lo k <= a + b) && decide (a + b <= IntKind.hi k)
      | .sub => decide (IntKind.lo k <= a - b) && decide (a - b <= IntKind.hi k)
      | .mul => decide (IntKind.lo k <= a * b) && decide (a * b <= IntKind.hi k)
      | .quo => decide (0 <= a) && decide (0 < b) && decide (a <= IntKind.hi k)
      | .rem => decide (0 <= a) && decide (0 < b)
      | _ => true
    | .d (.v (.string a)), .d (.v (.string b)) => Nat.ble (a.size + b.size) 9223372036854775807
    | _, _ => true
  | .unOp _ _ x => match evP F x with
    | .d (.v (.int k a)) => decide (IntKind.lo k <= -a) && decide (-a <= IntKind.hi k)
    | _ => true
  | .convert _ dst x => match evP F x with
    | .d (.v (.int _ a)) => decide (IntKind.lo (T dst).ik <= a) && decide (a <= IntKind.hi (T dst).ik)
    | _ => true
  | .indexAddr t x y => match evP F x, evP F y with
    | .ptr _ _, .d (.v (.int _ j)) => decide (0 <= j) && decide (j < (T t).len)
    | .bsl _ _ _ n _, .d (.v (.int _ j)) => decide (0 <= j) && decide (j < n)
    | _, _ => true
  | .index _ x y => match evP F x, evP F y with
    | .d (.v (.string s)), .d (.v (.int _ j)) => decide (0 <= j) && decide (j < s.size)
    | _, _ => true
  | .slice t x lo hi _ => match evP F x with
    | .d (.v (.string s)) => match loN F lo, hiN F s.size hi with
      | some j, some h => decide (0 <= j) && decide (j <= h) && decide (h <= s.size)
      | _, _ => true
    | p => match S.toS (T t).ek p with
      | some l => match loN F lo, hiN F l.length hi with
        | some j, some h => decide (0 <= j) && decide (j <= h) && decide (h <= l.length)
        | _, _ => true
      | none => true
  | .call c => match c with
    | ⟨.builtin .append, ⟨[x, y]⟩, ⟨[t, _]⟩⟩ => match evP F x with
      | .hd tk _ => match S.toks[tk]? with
        | some K => match S.toS (T t).ek (evP F y) with
          | some news => Nat.ble ((K.l.length + news.length) * (T t).eb) 140737488355328 && Nat.ble (K.l.length + news.length) 9223372036854775807
          | none => true
        | none => true
      | _ => true
    | _ => true
  | _ => true
section
variable {T : Nat -> TyI} {ok : Nat -> Bool} {F : Nat -> PV} {S S' : PS} {C : Prop} {r : PV}
theorem Fa {p : PV} (h : Yp S p = some (C, r, S')) : C := by
  unfold Yp at h
  split at h <;> (cases h; trivial)
theorem Aeb {op : BinOp} {t yt : TypeId} {x y : Operand} (h : Sw T ok F S op t x y = some (C, r, S')) (hc : E5 T F S (.binOp op t x y yt) = true) : C := by
  unfold Sw at h
  simp only [Bool.cond_eq_ite] at h
  simp only [E5] at hc
  split at h
  . rename_i k a k' b hx hy
    rw [hx, hy] at hc
    dsimp only at hc
    split at h
    . split at h <;> first | (cases h; simp only [Bool.and_eq_true, decide_eq_true_eq] at hc; first | exact hc | exact trivial | exact ⟨hc.1.1, hc.1.2, hc.2⟩) | cases h
    . cases h
  . rename_i a b hx hy
    rw [hx, hy] at hc
    dsimp only at hc
    split at h <;> first | (cases h; first | exact trivial | exact Nat.le_of_ble_eq_true hc) | cases h
  . split at h
    . split at h <;> first | (cases h; trivial) | cases h
    . cases h
  . cases h
theorem Xi {t : TypeId} {x : Operand} {lo hi m : Option Operand} (h : Hy T ok F S t x lo hi = some (C, r, S')) (hc : E5 T F S (.slice t x lo hi m) = true) : C := by
  unfold Hy at h
  simp only [E5] at hc
  cases hk : ok t with
  | false => rw [hk] at h; cases h
  | true =>
    rw [hk] at h
    simp only [cond_true] at h
    split at h
    . rename_i s hx
      rw [hx] at hc
      dsimp only at hc
      cases hb : Nat.beq (T t).kind 1 with
      | false => rw [hb] at h; cases h
      | true =>
        rw [hb] at h
        simp only [cond_true] at h
        split at h
        . rename_i j k hj hh
          rw [hj, hh] at hc
          cases h
          simp only [Bool.and_eq_true, decide_eq_true_eq] at hc
          exact ⟨hc.1.1, hc.1.2, hc.2⟩
        . cases h
    . rename_i p hx
      cases hb : Nat.beq (T t).kind 2 with
      | false => rw [hb] at h; cases h
      | true =>
        rw [hb] at h
        simp only [cond_true] at h
        split at h
        . rename_i l hl
          split at h
          . rename_i j k hj hh
            split at hc
            . rename_i s hs; exact absurd hs (hx s)
            . rw [hl] at hc
              dsimp only at hc
              rw [hj, hh] at hc
              cases h
              simp only [Bool.and_eq_true, decide_eq_true_eq] at hc
              exact ⟨hc.1.1, hc.1.2, hc.2⟩
          . cases h
        . cases h
theorem Aec {t : TypeId} {x : Operand} (h : S6 T ok F S t x = some (C, r, S')) : C := by
  unfold S6 at h
  simp only [Bool.cond_eq_ite] at h
  repeat' (first | exact Fa h | (cases h; trivial) | cases h | split at h)
theorem P1 {t : TypeId} {x : Operand} (h : Gm T ok F S t x = some (C, r, S')) : C := by
  unfold Gm at h
  simp only [Bool.cond_eq_ite] at h
  repeat' (first | exact Fa h | (cases h; trivial) | cases h | split at h)
theorem Xh {t : TypeId} {x : Operand} (h : Ez T ok F S t x = some (C, r, S')) : C := by
  unfold Ez at h
  simp only [Bool.cond_eq_ite] at h
  repeat' (first | exact Fa h | (cases h; trivial) | cases h | split at h)
theorem Xg {s : TypeId} {x : Operand} {f : Nat} (h : Hw T ok F S s x f = some (C, r, S')) : C := by
  unfold Hw at h
  simp only [Bool.cond_eq_ite] at h
  repeat' (first | exact Fa h | (cases h; trivial) | cases h | split at h)
theorem T9 {t : TypeId} {x y : Operand} (h : Fu T ok F S t x y = some (C, r, S')) (hc : E5 T F S (.indexAddr t x y) = true) : C := by
  unfold Fu at h
  simp only [E5] at hc
  cases hk : ok t with
  | false => rw [hk] at h; cases h
  | true =>
    rw [hk] at h
    simp only [cond_true] at h
    split at h
    . rename_i hx hy
      rw [hx, hy] at hc
      cases hb : Nat.beq (T t).kind 3 <;> rw [hb] at h <;> cases h
      simpa using hc
    . rename_i hx hy
      rw [hx, hy] at hc
      cases hb : Nat.beq (T t).kind 2 <;> rw [hb] at h <;> cases h
      simpa using hc
    . cases h
theorem Pn {t : TypeId} {x y : Operand} (h : Do T ok F S t x y = some (C, r, S')) (hc : E5 T F S (.index t x y) = true) : C := by
  unfold Do at h
  simp only [E5] at hc
  cases hk : (ok t && Nat.beq (T t).kind 1) with
  | false => rw [hk] at h; cases h
  | true =>
    rw [hk] at h
    simp only [cond_true] at h
    split at h
    . rename_i hx hy
      rw [hx, hy] at hc
      cases h
      simpa using hc
    . cases h
theorem Abq {src dst : TypeId} {x : Operand} (h : Lf T ok F S src dst x = some (C, r, S')) (hc : E5 T F S (.convert src dst x) = true) : C := by
  unfold Lf at h
  simp only [E5] at hc
  cases hk : (ok src && ok dst) with
  | false => rw [hk] at h; cases h
  | true =>
    rw [hk] at h
    simp only [cond_true] at h
    split at h
    . rename_i hx
      rw [hx] at hc
      cases hb : Nat.beq (T dst).kind 5 <;> rw [hb] at h <;> cases h
      simpa using hc
    . cases hb : Nat.beq (T dst).kind 1 <;> rw [hb] at h <;> cases h; trivial
    . cases h
theorem condE_un {op : UnOp} {t : TypeId} {x : Operand} (h : stUn F S op x = some (C, r, S')) (hc : E5 T F S (.unOp op t x) = true) : C := by
  unfold stUn at h
  simp only [E5] at hc
  split at h
  . cases h; trivial
  . rename_i hx
    rw [hx] at hc
    cases h
    simpa using hc
  . cases h
theorem Abp {c : Call} (h : Le T ok F S c = some (C, r, S')) : C := by
  unfold Le at h
  split at h
  . exact Aec h
  . simp only [Bool.cond_eq_ite] at h
    repeat' (first | (cases h; trivial) | cases h | split at h)
  . simp only [Bool.cond_eq_ite] at h
    repeat' (first | (cases h; trivial) | cases h | split at h)
  . cases h
theorem Ad9 {op : Op} (h : Hd T ok F S op = some (C, r, S')) (hc : E5 T F S op = true) : C := by
  unfold Hd at h
  split at h
  . exact Fa h
  . exact Fa h
  . split at h
    . split at h <;> exact Fa h
    . cases h
  . exact P1 h
  . split at h <;> first | (cases h; trivial) | cases h
  . exact Aeb h hc
  . exact condE_un h hc
  . exact Abq h hc
  . exact Xi h hc
  . exact Xg h
  . exact T9 h hc
  . exact Pn h hc
  . split at h
    . split at h
      . exact Fa h
      . cases h
    . cases h
  . exact Abp h
  . cases h
theorem T8 {t : TypeId} {x y : Operand} {t' : TypeId} (h : Ld T ok F S t x y = some (C, r, S')) (hc : E5 T F S (.call ⟨.builtin .append, ⟨[x, y]⟩, ⟨[t, t']⟩⟩) = true) : C := by
  unfold Ld at h
  simp only [E5] at hc
  cases hk : (ok t && Nat.beq (T t).kind 2) with
  | false => rw [hk] at h; cases h
  | true =>
    rw [hk] at h
    simp only [cond_true] at h
    split at h
    . rename_i tk n hx
      rw [hx] at hc
      dsimp only at hc
      split at h
      . rename_i K hK
        rw [hK] at hc
        dsimp only at hc
        cases hb : (Nat.beq K.ver n && Nat.beq K.k (T t).ek && Nat.beq K.e (T t).elem) with
        | false => rw [hb] at h; cases h
        | true =>
          rw [hb] at h
          simp only [cond_true] at h
          split at h
          . rename_i news hn
            rw [hn] at hc
            cases h
            simp only [Bool.and_eq_true] at hc
            exact ⟨Nat.le_of_ble_eq_true hc.1, Nat.le_of_ble_eq_true hc.2⟩
          . cases h
      . cases h
    . cases h
theorem Aea {op : Op} (h : He T ok F S op = some (C, r, S')) (hc : E5 T F S op = true) : C := by
  unfold He at h
  split at h
  . rename_i t
    cases hk : (ok t && (T t).zero.all (·.oneCell')) <;> rw [hk] at h <;> cases h; trivial
  . split at h
    . rename_i l _
      cases hk : Ce l <;> rw [hk] at h <;> cases h; trivial
    . cases h
  . unfold Iz at h
    simp only [Bool.cond_eq_ite] at h
    split at h
    . split at h
      . cases h; trivial
      . cases h
    . cases h
  . unfold Cy at h
    simp only [Bool.cond_eq_ite] at h
    split at h
    . split at h
      . split at h
        . cases h; trivial
        . cases h
      . cases h
    . cases h
  . exact Xh h
  . unfold Pa at h
    simp only [Bool.cond_eq_ite] at h
    repeat' (first | (cases h; trivial) | cases h | split at h)
  . cases h; trivial
  . rename_i t x
    cases hk : (ok t && Nat.beq (T t).kind 4) with
    | false => rw [hk] at h; cases h
    | true =>
      rw [hk] at h
      simp only [cond_true] at h
      split at h
      . split at h
        . cases h; trivial
        . cases h
      . cases h
  . split at h
    . rename_i x y t t'
      cases hb : Nat.beq t t' with
      | false => rw [hb] at h; cases h
      | true => rw [hb] at h; exact T8 h hc
    . cases h
  . cases h
theorem I0 {p : PV} (h : Yp S p = some (C, r, S')) : S' = S /\ r = p := by
  unfold Yp at h
  split at h <;> (cases h; exact ⟨rfl, rfl⟩)
theorem Qw {op : Op} (h : Hd T ok F S op = some (C, r, S')) : S' = S := by
  unfold Hd at h
  split at h
  . exact (I0 h).1
  . exact (I0 h).1
  . split at h
    . split at h <;> exact (I0 h).1
    . cases h
  . unfold Gm at h
    try simp only [Bool.cond_eq_ite] at h
    repeat' (first | exact (I0 h).1 | (cases h; rfl) | cases h | split at h)
  . repeat' (first | (cases h; rfl) | cases h | split at h)
  . unfold Sw at h
    try simp only [Bool.cond_eq_ite] at h
    repeat' (first | (cases h; rfl) | cases h | split at h)
  . unfold stUn at h
    try simp only [Bool.cond_eq_ite] at h
    repeat' (first | (cases h; rfl) | cases h | split at h)
  . unfold Lf at h
    try simp only [Bool.cond_eq_ite] at h
    repeat' (first | (cases h; rfl) | cases h | split at h)
  . unfold Hy at h
    try simp only [Bool.cond_eq_ite] at h
    repeat' (first | (cases h; rfl) | cases h | split at h)
  . unfold Hw at h
    try simp only [Bool.cond_eq_ite] at h
    repeat' (first | (cases h; rfl) | cases h | split at h)
  . unfold Fu at h
    try simp only [Bool.cond_eq_ite] at h
    repeat' (first | (cases h; rfl) | cases h | split at h)
  . unfold Do at h
    try simp only [Bool.cond_eq_ite] at h
    repeat' (first | (cases h; rfl) | cases h | split at h)
  . repeat' (first | exact (I0 h).1 | (cases h; rfl) | cases h | split at h)
  . unfold Le S6 at h
    try simp only [Bool.cond_eq_ite] at h
    repeat' (first | (cases h; rfl) | cases h | split at h)
  . cases h
def Wm : Op -> Bool
  | .store .. | .alloc .. | .box .. => true
  | .call { callee := .builtin .append, .. } => true
  | _ => false
theorem Ac4 {op : Op} (ht : Wm op = false) (h : He T ok F S op = some (C, r, S')) : S' = S := by
  unfold He at h
  split at h
  . cases ht
  . cases ht
  . unfold Iz at h
    try simp only [Bool.cond_eq_ite] at h
    repeat' (first | (cases h; rfl) | cases h | split at h)
  . unfold Cy at h
    try simp only [Bool.cond_eq_ite] at h
    repeat' (first | (cases h; rfl) | cases h | split at h)
  . unfold Ez at h
    try simp only [Bool.cond_eq_ite] at h
    repeat' (first | (cases h; rfl) | cases h | split at h)
  . cases ht
  . cases h; rfl
  . simp only [Bool.cond_eq_ite] at h
    repeat' (first | (cases h; rfl) | cases h | split at h)
  . split at h
    . cases ht
    . cases h
  . cases h
end
end Go.Proofs.YtjagmmmcibdibaaGreatDoor
namespace Go.Proofs.YtjagmmmcibdibaaGreatDoor
open Go.RowKit
section
variable (P : Program)
def eqF1 (t : TypeId) : PV -> PV -> Option Bool
  | .d (.v (.int k a)), .d (.v (.int k' b)) => match P.underlying t with
    | some (.int _) => bif k == k' then some (decide (a = b)) else none
    | _ => none
  | .d (.v (.string a)), .d (.v (.string b)) => match P.underlying t with
    | some .string => some (decide (a = b))
    | _ => none
  | .d (.v (.bool a)), .d (.v (.bool b)) => match P.underlying t with
    | some .bool => some (decide (a = b))
    | _ => none
  | _, _ => none
def eqFs (l l' : List PV) : List Field -> Option Bool
  | [] => some true
  | f :: fs => bif f.name == "_" then none else
    match l[f.offset]? with
    | some p => match l'[f.offset]? with
      | some q => match eqF1 P f.type p q with
        | some true => eqFs l l' fs
        | some false => some false
        | none => none
      | none => none
    | none => none
def eqAg (t : TypeId) (l l' : List PV) : Option Bool := match P.underlying t with
  | some (.struct fs) => bif P.stoodInHeld t || P.eqGuardType P.depth t then none else eqFs P l l' fs.toList
  | _ => none
end
section
variable {P : Program} {K : Kx} {w : World}
theorem eqF1_run {t : TypeId} {p q : PV} {u v : Value} {b : Bool} (h : eqF1 P t p q = some b) (hp : Rep K w p u) (hq : Rep K w q v) (d : Nat) : (isAgg t).run P w = .ok false w /\ (Op.equalIn (d + 1) t u v).run P w = .ok b w := by
  unfold eqF1 at h
  split at h
  . rename_i k a k' b'
    rw [Cb hp, Cb hq]
    split at h
    . rename_i kk hu
      cases hk : (k == k') with
      | false => rw [hk] at h; cases h
      | true =>
        rw [hk] at h
        cases h
        have e : k = k' := by cases k <;> cases k' <;> first | rfl | cases hk
        subst e
        refine ⟨by simp [isAgg, underlying, program, go_sem, hu, Sem.run], ?_⟩
        rw [run_equalIn_int w d t k kk a b' hu]; rfl
    . cases h
  . rename_i a b'
    rw [Cb hp, Cb hq]
    split at h
    . rename_i hu
      cases h
      refine ⟨by simp [isAgg, underlying, program, go_sem, hu, Sem.run], ?_⟩
      rw [run_equalIn_string w d t a b' hu, Ys]
    . cases h
  . rename_i a b'
    rw [Cb hp, Cb hq]
    split at h
    . rename_i hu
      cases h
      refine ⟨by simp [isAgg, underlying, program, go_sem, hu, Sem.run], ?_⟩
      rw [run_equalIn_bool' w d t a b' hu]; cases a <;> cases b' <;> rfl
    . cases h
  . cases h
theorem Zb {l l' : List PV} {cs cs' : List Value} (h1 : Ap K w l cs) (h2 : Ap K w l' cs') (d : Nat) : ∀ {fs : List Field} {b : Bool}, eqFs P l l' fs = some b -> (Op.eqFields (d + 1) cs.toArray cs'.toArray fs).run P w = .ok b w
  | [], b, h => by cases h; rfl
  | f :: fs, b, h => by
    unfold eqFs at h
    cases hn : (f.name == "_") with
    | true => rw [hn] at h; cases h
    | false =>
      rw [hn] at h
      simp only [cond_false] at h
      have hne : f.name ≠ "_" := by intro e; rw [e] at hn; cases hn
      split at h
      . rename_i p hp
        split at h
        . rename_i q hq
          obtain ⟨u, hu, ru⟩ := h1.get hp
          obtain ⟨v, hv, rv⟩ := h2.get hq
          have key : ∀ b', eqF1 P f.type p q = some b' -> (Op.eqFields (d + 1) cs.toArray cs'.toArray (f :: fs)).run P w = ((if (!b') = true then (pure false : Sem Bool) else Op.eqFields (d + 1) cs.toArray cs'.toArray fs)).run P w := fun b' he => by
            obtain ⟨e1, e2⟩ := eqF1_run he ru rv d
            have pu : (part f.type cs.toArray f.offset).run P w = .ok u w := by simp only [part, Sem.run_bind, e1, Result.andThen_ok, Bool.false_eq_true, if_false]; simp [hu]
            have pv : (part f.type cs'.toArray f.offset).run P w = .ok v w := by simp only [part, Sem.run_bind, e1, Result.andThen_ok, Bool.false_eq_true, if_false]; simp [hv]
            simp only [Op.eqFields, if_pos hne, Sem.run_bind, pu, pv, e2, Result.andThen_ok]
          split at h
          . rename_i he
            rw [key true he]
            exact Zb h1 h2 d h
          . rename_i he
            cases h
            rw [key false he]; rfl
          . cases h
        . cases h
      . cases h
section
variable {o : Oper} {F : Nat -> PV} {S : PS} {ty yt : TypeId} {x y : Operand} {l l' : List PV} {b : Bool}
theorem Aah {op : BinOp} {z : Value} (ho : o.op = .binOp op ty x y yt) (hx : evP F x = .agg l) (hy : evP F y = .agg l') (hz : z.oneCell' = true)
    (hrun : ∀ (K : Kx) (w : World) (cs cs' : List Value), Ap K w l cs -> Ap K w l' cs' -> (do eqGuard op ty x y (.agg cs.toArray) (.agg cs'.toArray); binOp op ty (.agg cs.toArray) (.agg cs'.toArray) : Sem Value).run P w = .ok z w) : OpS P o F S (.d (.v z)) S :=
  OpS.pure fun K w ρ hI h => by
    have h1 := h x (by simp [ho, Op.operands])
    have h2 := h y (by simp [ho, Op.operands])
    rw [hx] at h1
    rw [hy] at h2
    simp only [Rep] at h1 h2
    obtain ⟨cs, e1, r1⟩ := h1
    obtain ⟨cs', e2, r2⟩ := h2
    have h3 := hrun K w cs cs' r1 r2
    refine ⟨z, ?_, D6 hz⟩
    simp only [execOp, ho, e1, e2]
    simp only [Sem.run_bind] at h3 |-
    rw [h3]; rfl
theorem Za (h : eqAg P ty l l' = some b) {cs cs' : List Value} (h1 : Ap K w l cs) (h2 : Ap K w l' cs') (op : BinOp) : (eqGuard op ty x y (.agg cs.toArray) (.agg cs'.toArray)).run P w = .ok () w /\ (Op.equalIn 10000 ty (.agg cs.toArray) (.agg cs'.toArray)).run P w = .ok b w := by
  unfold eqAg at h
  split at h
  . rename_i fs hu
    cases hb : (P.stoodInHeld ty || P.eqGuardType P.depth ty) with
    | true => rw [hb] at h; cases h
    | false =>
      rw [hb] at h
      simp only [cond_false] at h
      simp only [Bool.or_eq_false_iff] at hb
      refine ⟨run_eqGuard_agg w op ty x y _ _ hb.2, ?_⟩
      have hfs : P.fieldsOf ty = fs := by unfold Program.fieldsOf; rw [hu]
      rw [run_equalIn_struct w 9999 ty _ _ (by rw [hfs]; exact hu) hb.1, hfs]
      exact Zb h1 h2 9998 h
  . cases h
theorem Aad (ho : o.op = .binOp .eql ty x y yt) (hx : evP F x = .agg l) (hy : evP F y = .agg l') (h : eqAg P ty l l' = some b) : OpS P o F S (.d (.v (.bool b))) S :=
  Aah ho hx hy rfl fun K w cs cs' h1 h2 => by
    obtain ⟨e1, e2⟩ := Za (x := x) (y := y) h h1 h2 .eql
    rw [Sem.run_bind, e1, Result.andThen_ok, run_eql_struct, e2]; rfl
theorem Aae (ho : o.op = .binOp .neq ty x y yt) (hx : evP F x = .agg l) (hy : evP F y = .agg l') (h : eqAg P ty l l' = some b) : OpS P o F S (.d (.v (.bool (!b)))) S :=
  Aah ho hx hy rfl fun K w cs cs' h1 h2 => by
    obtain ⟨e1, e2⟩ := Za (x := x) (y := y) h h1 h2 .neq
    rw [Sem.run_bind, e1, Result.andThen_ok, run_neq_struct, e2]; rfl
end
end
end Go.Proofs.YtjagmmmcibdibaaGreatDoor
namespace Go.Proofs.YtjagmmmcibdibaaGreatDoor
open Go.RowKit
def putL (N : Nat) (dst : Option Tmp) (r : PV) (L : List (Nat × PV)) : List (Nat × PV) :=
  match dst with
  | none => L
  | some d => bif Nat.blt d N then (d, r) :: L else L
theorem Is {N : Nat} {dst : Option Tmp} {r : PV} {L : List (Nat × PV)} : Cd N dst r (fr L) = fr (putL N dst r L) := by
  cases dst with
  | none => rfl
  | some d =>
    funext t
    simp only [Cd, putL]
    cases h : Nat.blt d N with
    | true => simp only [cond_true, fr, Afj, Bool.and_true]
    | false => simp only [cond_false, Bool.and_false]
def ddL : List Nat -> List (Nat × PV) -> List (Nat × PV)
  | _, [] => []
  | seen, (i, p) :: r => bif seen.any (Nat.beq i) then ddL seen r else (i, p) :: ddL (i :: seen) r
theorem Xj : ∀ (seen : List Nat) (L : List (Nat × PV)), ∀ q ∈ ddL seen L, q.1 ∉ seen /\ Afj q.1 L = q.2
  | _, [], q, h => by simp [ddL] at h
  | seen, (i, p) :: r, q, h => by
    simp only [ddL] at h
    cases hs : seen.any (Nat.beq i) with
    | true =>
      rw [hs] at h
      obtain ⟨h1, h2⟩ := Xj seen r q h
      refine ⟨h1, ?_⟩
      simp only [Afj]
      cases hb : Nat.beq q.1 i with
      | false => exact h2
      | true =>
        have := Nat.eq_of_beq_eq_true hb
        rw [List.any_eq_true] at hs
        obtain ⟨j, hj, hj2⟩ := hs
        have := Nat.eq_of_beq_eq_true hj2
        subst this
        exact absurd hj (by rw [<- ‹q.1 = i›]; exact h1)
    | false =>
      rw [hs] at h
      simp only [cond_false, List.mem_cons] at h
      rcases h with rfl | h
      . refine ⟨fun hm => ?_, by simp [Afj]⟩
        have : seen.any (Nat.beq i) = true := List.any_eq_true.2 ⟨i, hm, by simp⟩
        rw [hs] at this; cases this
      . obtain ⟨h1, h2⟩ := Xj (i :: seen) r q h
        refine ⟨fun hm => h1 (List.mem_cons_of_mem _ hm), ?_⟩
        simp only [Afj]
        cases hb : Nat.beq q.1 i with
        | false => exact h2
        | true => exact absurd (by rw [Nat.eq_of_beq_eq_true hb]; exact List.mem_cons_self) h1
theorem ddL_le (L : List (Nat × PV)) : Tq (ddL [] L) (fr L) := fun q h => (Xj [] L q h).2
def argsL : Nat -> List PV -> List (Nat × PV)
  | _, [] => []
  | n, p :: r => (n, p) :: argsL (n + 1) r
theorem Y3 : ∀ (args : List PV) (n : Nat) (F : Nat -> PV), (∀ t, F (n + t) = Hj args t) -> Tq (argsL n args) F
  | [], _, _, _ => Ag
  | p :: r, n, F, h => Aa (h 0) (Y3 r (n + 1) F fun t => by have := h (t + 1); rw [show n + 1 + t = n + (t + 1) by omega]; exact this)
mutual
def Gg (S : PS) : PV -> Option PV
  | .d c => some (.d c)
  | .ep l => some (.ep l)
  | .un => some .un
  | .any => some .any
  | .hd t n => match S.toD (.hd t n) with
    | some c => some (.d c)
    | none => none
  | .agg l => match My S l with
    | some l' => some (.agg l')
    | none => none
  | .tup l => match My S l with
    | some l' => some (.tup l')
    | none => none
  | .fn f l => match My S l with
    | some l' => some (.fn f l')
    | none => none
  | _ => none
def My (S : PS) : List PV -> Option (List PV)
  | [] => some []
  | p :: r => match Gg S p with
    | some p' => match My S r with
      | some r' => some (p' :: r')
      | none => none
    | none => none
end
theorem coe_fns {S : PS} {f : Nat} {l l' : List PV} (h : F7 S l l') : Coe S (.fn f l) (.fn f l') := fun K w u hI hr => by
  simp only [Rep] at hr |-
  obtain ⟨cs, h1, h2⟩ := hr
  exact ⟨cs, h1, F7.rep hI h h2⟩
mutual
theorem Ra {S : PS} : ∀ (p q : PV), Gg S p = some q -> Coe S p q /\ q.lt 0 0 = true
  | .d c, q, h => by simp only [Gg] at h; cases h; exact ⟨Ac _, rfl⟩
  | .ep l, q, h => by simp only [Gg] at h; cases h; exact ⟨Ac _, rfl⟩
  | .un, q, h => by simp only [Gg] at h; cases h; exact ⟨Ac _, rfl⟩
  | .any, q, h => by simp only [Gg] at h; cases h; exact ⟨Ac _, rfl⟩
  | .hd t n, q, h => by
    simp only [Gg] at h
    split at h
    . rename_i c hc; cases h; exact ⟨coe_d hc, rfl⟩
    . cases h
  | .agg l, q, h => by
    simp only [Gg] at h
    split at h
    . rename_i l' hl; cases h; have := I6 l l' hl; exact ⟨Eb this.1, this.2⟩
    . cases h
  | .tup l, q, h => by
    simp only [Gg] at h
    split at h
    . rename_i l' hl; cases h; have := I6 l l' hl; exact ⟨Hl this.1, this.2⟩
    . cases h
  | .fn f l, q, h => by
    simp only [Gg] at h
    split at h
    . rename_i l' hl; cases h; have := I6 l l' hl; exact ⟨coe_fns this.1, this.2⟩
    . cases h
  | .ptr _ _, q, h => by simp only [Gg] at h; cases h
  | .bsl _ _ _ _ _, q, h => by simp only [Gg] at h; cases h
theorem I6 {S : PS} : ∀ (l l' : List PV), My S l = some l' -> F7 S l l' /\ PV.ltL 0 0 l' = true
  | [], l', h => by simp only [My] at h; cases h; exact ⟨Ae, rfl⟩
  | p :: r, l', h => by
    simp only [My] at h
    split at h
    . rename_i p' hp
      split at h
      . rename_i r' hr
        cases h
        have h1 := Ra p p' hp
        have h2 := I6 r r' hr
        exact ⟨Ab h1.1 h2.1, by simp only [PV.ltL, h1.2, h2.2, Bool.and_self]⟩
      . cases h
    . cases h
end
section
variable {P : Program} {o : Oper} {F : Nat -> PV} {S S' : PS} {c : Operand} {al : Array Operand} {ats : Array TypeId} {f : Nat} {caps args : List PV} {r : PV} {x : Value}
theorem Vt (ho : o.op = .call { callee := .value c, args := al, argTypes := ats }) (he : Ent P f) (hc : evP F c = .fn f caps) (ha : F7 S (al.toList.map (evP F) ++ caps) args) (hev : EvC P f args S (.ret r) S') : OpS P o F S r S' := by
  intro ro mm K w a next Q hI hx hn
  obtain ⟨vs, h1, h2⟩ := La ho he hc hx
  have h3 := F7.rep hI ha h2
  refine Lm h1 ((hev K w vs hI h3).mono ?_)
  rintro e w' ⟨K', hs, hI', v, rfl, hr⟩
  exact hn v w' K' hs hI' hr
theorem Agu (ho : o.op = .call { callee := .value c, args := al, argTypes := ats }) (he : Ent P f) (hc : evP F c = .fn f caps) (ha : F7 S (al.toList.map (evP F) ++ caps) args) (hev : EvC P f args S (.panic x) S') : OpX P o F S x S' := by
  intro ro mm K w a next Q hI hx hn
  obtain ⟨vs, h1, h2⟩ := La ho he hc hx
  have h3 := F7.rep hI ha h2
  refine Lm h1 ((hev K w vs hI h3).mono ?_)
  rintro e w' ⟨K', hs, hI', hr⟩
  simp only [Mi] at hr
  subst hr
  exact hn w' K' hs hI'
theorem B4 (ho : o.op = .call { callee := .value c, args := al, argTypes := ats }) (he : Ent P f) (hc : evP F c = .fn f caps) (hlt : PV.ltL 0 0 args = true) (ha : F7 S (al.toList.map (evP F) ++ caps) args) (hev : EvC P f args ⟨[], []⟩ (.panic x) ⟨[], []⟩) : OpX P o F S x S := by
  have hren : PV.renL (fbN []) (ftN [] S.toks.length) args = args := Gw args hlt
  have h := Aak (S := S) (S0 := ⟨[], []⟩) (S0' := ⟨[], []⟩) (ids := []) (tids := []) ho he hc Hv (by rw [hren]; exact ha) hlt rfl hev
  have e : S.after [] [] ⟨[], []⟩ = S := by
    cases S; simp [PS.after, Pv]
  rw [e] at h
  exact h
end
theorem Ud {f : Nat} {args : List PV} {S S' : PS} {x : Value} (n m : Nat) (h : Aw f args S (.panic x) S') (hn : S.boxes.length <= n) (hm : S.toks.length <= m) (hall : (S'.boxes.take n).all (fun c => PV.ltL n m c) = true) : Aw f args S (.panic x) (S'.cut n m) :=
  ⟨h.1, fun K w vs hI hA => (h.2 K w vs hI hA).mono fun _ _ ⟨K', h1, h2, he⟩ => ⟨K'.cut n m, C8 hI h1 hn hm, h2.cut hall, he⟩⟩
theorem Nb {P : Program} {f : Nat} {fn : Func} {c : Code} {args : List PV} {S S' : PS} {r : PV} (hf : P.funcs[f]? = some fn) (hb : fn.body = some c) (hn : args.length <= fn.ntmps)
    (h : PW P fn.ntmps c (fun e F S1 => (e = .normal \/ e = .ret) /\ S1 = S' /\ ∃ ps, Ka P F S1 fn.results.toList ps /\ Tp ps = r) (Hj args) S) : EvC P f args S (.ret r) S' := by
  intro K w vs hI hA
  have hl := hA.length
  refine calls_of_wp hf hb (wp_mono (h.run0 K w { tmps := vs.toArray ++ Array.replicate (fn.ntmps - vs.toArray.size) undef, defers := [] } hI ⟨by simp; omega, fun t => ?_⟩) ?_)
  . have := D9 args vs (fn.ntmps - vs.toArray.size) t hA
    rw [Array.getD_eq_getD_getElem?]
    rw [List.getD_eq_getElem?_getD] at this
    rw [<- Array.getElem?_toList]
    simpa using this
  . intro e a' w' hq
    obtain ⟨K', F', S1, h1, h2, h3, h4, he, rfl, ps, h8, rfl⟩ := hq
    obtain ⟨v, h10, h11⟩ := Ew h2 h3 h8
    have hpost : ∃ K2, Step K K2 w w' /\ Inv K2 S1 w' /\ Mi K2 w' (.ret (Tp ps)) (.returned v) := ⟨_, h1, h2, v, rfl, h11⟩
    rcases he with rfl | rfl
    . exact ⟨h4, v, h10, hpost⟩
    . exact ⟨h4, v, h10, hpost⟩
theorem ev_bodyX {P : Program} {f : Nat} {fn : Func} {c : Code} {args : List PV} {S S' : PS} {x : Value} (hf : P.funcs[f]? = some fn) (hb : fn.body = some c) (hn : args.length <= fn.ntmps)
    (h : PW P fn.ntmps c (fun e _ S1 => e = .panic [{ v := x, recovered := false }] /\ S1 = S') (Hj args) S) : EvC P f args S (.panic x) S' := by
  intro K w vs hI hA
  have hl := hA.length
  refine calls_of_wp hf hb (wp_mono (h.run0 K w { tmps := vs.toArray ++ Array.replicate (fn.ntmps - vs.toArray.size) undef, defers := [] } hI ⟨by simp; omega, fun t => ?_⟩) ?_)
  . have := D9 args vs (fn.ntmps - vs.toArray.size) t hA
    rw [Array.getD_eq_getD_getElem?]
    rw [List.getD_eq_getElem?_getD] at this
    rw [<- Array.getElem?_toList]
    simpa using this
  . intro e a' w' hq
    obtain ⟨K', F', S1, h1, h2, h3, h4, rfl, rfl⟩ := hq
    exact ⟨h4, _, h1, h2, rfl⟩
inductive ORes where
  | val (r : PV) (S : PS)
  | bang (c : Value) (S : PS)
def ORes.ok (P : Program) (o : Oper) (F : Nat -> PV) (S : PS) : ORes -> Prop
  | .val r S' => OpS P o F S r S'
  | .bang c S' => OpX P o F S c S'
noncomputable def S7 (F : Nat -> PV) (S : PS) : Op -> Option PV
  | .indexAddr t x y => bif Ba t && Nat.beq (tyi t).kind 2 then
      match S.toS (tyi t).ek (evP F x), evP F y with
      | some l, .d (.v (.int _ j)) => bif decide (0 <= j) then
          match l[j.toNat]? with
          | some e => some (.ep e)
          | none => none
        else none
      | _, _ => none
    else none
  | .index t x y => bif Ba t && Nat.beq (tyi t).kind 3 && Ba (tyi t).elem then
      match evP F x, evP F y with
      | .agg l, .d (.v (.int _ j)) => bif decide (0 <= j) && decide (j < (tyi t).len) then
          bif (tyi (tyi t).elem).isRow then
            bif Nat.ble (j.toNat * (tyi (tyi t).elem).size + (tyi (tyi t).elem).size) l.length then some (.agg ((l.drop (j.toNat * (tyi (tyi t).elem).size)).take (tyi (tyi t).elem).size)) else none
          else match l[j.toNat * (tyi (tyi t).elem).size]? with
            | some p => some p
            | none => none
        else none
      | _, _ => none
    else none
  | .binOp op ty x y _ => match evP F x, evP F y with
    | .d (.v (.int k a)), .d (.v (.int k' b)) => bif k == k' then
        match op with
        | .add => some (.d (.v (.int k (k.wrap (a + b)))))
        | .sub => some (.d (.v (.int k (k.wrap (a - b)))))
        | .mul => some (.d (.v (.int k (k.wrap (a * b)))))
        | .quo => bif decide (b = 0) then none else some (.d (.v (.int k (k.wrap (a.tdiv b)))))
        | .rem => bif decide (b = 0) then none else some (.d (.v (.int k (a.tmod b))))
        | _ => none
      else none
    | .agg l, .agg l' => match op with
        | .eql => match eqAg Tryz.prog ty l l' with
          | some b => some (.d (.v (.bool b)))
          | none => none
        | .neq => match eqAg Tryz.prog ty l l' with
          | some b => some (.d (.v (.bool (!b))))
          | none => none
        | _ => none
    | _, _ => none
  | .unOp .neg _ x => match evP F x with
    | .d (.v (.int k a)) => some (.d (.v (.int k (k.wrap (-a)))))
    | _ => none
  | .convert src dst x => bif Ba src && Ba dst && Nat.beq (tyi dst).kind 5 then
      match evP F x with
      | .d (.v (.int _ a)) => some (.d (.v (.int (tyi dst).ik ((tyi dst).ik.wrap a))))
      | _ => none
    else none
  | .field t x f => match Tryz.prog.underlying t with
    | some (.struct fs) => match fs[f]? with
      | some fd => bif Ba fd.type then
          match evP F x with
          | .agg l => bif (tyi fd.type).isRow then
              bif Nat.ble (fd.offset + (tyi fd.type).size) l.length then some (.agg ((l.drop fd.offset).take (tyi fd.type).size)) else none
            else l[fd.offset]?
          | _ => none
        else none
      | none => none
    | _ => none
  | _ => none
theorem Nr {o : Oper} {F : Nat -> PV} {S : PS} {r : PV} (h : S7 F S o.op = some r) : OpS Tryz.prog o F S r S := by
  generalize ho : o.op = p at h
  unfold S7 at h
  split at h
  . rename_i t x y
    cases hk : (Ba t && Nat.beq (tyi t).kind 2) with
    | false => rw [hk] at h; cases h
    | true =>
      rw [hk] at h
      simp only [cond_true] at h
      simp only [Bool.and_eq_true] at hk
      split at h
      . rename_i l kd j hx hy
        cases h0 : decide (0 <= j) with
        | false => rw [h0] at h; cases h
        | true =>
          rw [h0] at h
          simp only [cond_true] at h
          split at h
          . rename_i e he
            cases h
            exact Ji ho (Fj t hk.1) (Nat.eq_of_beq_eq_true hk.2) hx hy (by simpa using h0) he
          . cases h
      . cases h
  . rename_i t x y
    cases hk : (Ba t && Nat.beq (tyi t).kind 3 && Ba (tyi t).elem) with
    | false => rw [hk] at h; cases h
    | true =>
      rw [hk] at h
      simp only [cond_true] at h
      simp only [Bool.and_eq_true] at hk
      split at h
      . rename_i l kd j hx hy
        cases h0 : (decide (0 <= j) && decide (j < (tyi t).len)) with
        | false => rw [h0] at h; cases h
        | true =>
          rw [h0] at h
          simp only [cond_true] at h
          simp only [Bool.and_eq_true, decide_eq_true_eq] at h0
          cases hr : (tyi (tyi t).elem).isRow with
          | true =>
            rw [hr] at h
            simp only [cond_true] at h
            cases hb : Nat.ble (j.toNat * (tyi (tyi t).elem).size + (tyi (tyi t).elem).size) l.length with
            | false => rw [hb] at h; cases h
            | true =>
              rw [hb] at h
              cases h
              exact G9 ho (Fj t hk.1.1) (Nat.eq_of_beq_eq_true hk.1.2) (Fj _ hk.2) hx hy h0.1 h0.2 (.inl ⟨hr, rfl, Nat.le_of_ble_eq_true hb⟩)
          | false =>
            rw [hr] at h
            simp only [cond_false] at h
            split at h
            . rename_i p hp
              cases h
              exact G9 ho (Fj t hk.1.1) (Nat.eq_of_beq_eq_true hk.1.2) (Fj _ hk.2) hx hy h0.1 h0.2 (.inr ⟨hr, hp⟩)
            . cases h
      . cases h
  . split at h
    . rename_i k a k' b hx hy
      cases hk : (k == k') with
      | false => rw [hk] at h; cases h
      | true =>
        rw [hk] at h
        obtain rfl := Rr hk
        simp only [cond_true] at h
        split at h
        . cases h; exact opb_addW ho hx hy
        . cases h; exact opb_subW ho hx hy
        . cases h; exact opb_mulW ho hx hy
        . by_cases hb : b = 0
          . subst hb; cases h
          . rw [show decide (b = 0) = false by simpa using hb] at h; cases h; exact opb_quoT ho hx hy hb
        . by_cases hb : b = 0
          . subst hb; cases h
          . rw [show decide (b = 0) = false by simpa using hb] at h; cases h; exact Aaf ho hx hy hb
        . cases h
    . rename_i l l' hx hy
      split at h
      . split at h
        . rename_i b hb; cases h; exact Aad ho hx hy hb
        . cases h
      . split at h
        . rename_i b hb; cases h; exact Aae ho hx hy hb
        . cases h
      . cases h
    . cases h
  . split at h
    . rename_i k a hx; cases h; exact Aaj ho hx
    . cases h
  . rename_i src dst x
    cases hk : (Ba src && Ba dst && Nat.beq (tyi dst).kind 5) with
    | false => rw [hk] at h; cases h
    | true =>
      rw [hk] at h
      simp only [cond_true] at h
      simp only [Bool.and_eq_true] at hk
      split at h
      . rename_i k a hx; cases h; exact Aag ho (Fj _ hk.1.1) (Fj _ hk.1.2) (Nat.eq_of_beq_eq_true hk.2) hx
      . cases h
  . rename_i t x f
    split at h
    . rename_i fs hfs
      split at h
      . rename_i fd hfd
        cases hk : Ba fd.type with
        | false => rw [hk] at h; cases h
        | true =>
          rw [hk] at h
          simp only [cond_true] at h
          split at h
          . rename_i l hx
            cases hr : (tyi fd.type).isRow with
            | true =>
              rw [hr] at h
              simp only [cond_true] at h
              cases hb : Nat.ble (fd.offset + (tyi fd.type).size) l.length with
              | false => rw [hb] at h; cases h
              | true =>
                rw [hb] at h
                cases h
                exact R9 ho hx hfs hfd rfl (Fj _ hk) rfl (.inl ⟨hr, rfl, hb⟩)
            | false =>
              rw [hr] at h
              exact R9 ho hx hfs hfd rfl (Fj _ hk) rfl (.inr ⟨hr, h⟩)
          . cases h
      . cases h
    . cases h
  . cases h
end Go.Proofs.YtjagmmmcibdibaaGreatDoor
namespace Go.Proofs.YtjagmmmcibdibaaGreatDoor
open Go.RowKit
def J1 (ops : Array Oper) (i j : Nat) : Bool :=
  match ops[i]?, ops[j]? with
  | some oi, some oj => if i < j then !aft oj i else !aft oi j
  | _, _ => true
def Ck (L : List (Nat × List Nat)) (j : Nat) : List Nat := match L.find? (fun e => Nat.beq e.1 j) with | some e => e.2 | none => []
namespace Bw
section
variable (P : Program) (N : Nat) (ops : Array Oper) (ch : Nat -> Bool) (U Ut : Nat -> List Nat)
inductive WalkA : Nat -> List Oper -> (Nat -> PV) -> PS -> Bool -> List Nat -> WRes -> Prop
  | nil {k F S D} : WalkA k [] F S false D (.done F S)
  | nilX {k F S D c Sx} : WalkA k [] F S true D (.panic c Sx)
  | skip {k o rest F S bm D res} : Al ops F o = some false -> WalkA (k + 1) rest (Cd N o.dst .un F) S bm D res -> WalkA k (o :: rest) F S bm D res
  | free {k o rest F S bm D res r} : Al ops F o = some true -> ch k = false -> (∀ S', Agree (U k) (Ut k) S S' -> OpS P o F S' r S') -> WalkA (k + 1) rest (Cd N o.dst r F) S bm D res -> WalkA k (o :: rest) F S bm D res
  | pin {k o rest F S bm D res r} : Al ops F o = some true -> ch k = false -> To ops ch k = true -> OpS P o F S r S -> WalkA (k + 1) rest (Cd N o.dst r F) S bm D res -> WalkA k (o :: rest) F S bm D res
  | chain {k o rest F S S' D res r} : Al ops F o = some true -> ch k = true -> OpS P o F S r S' -> (∀ j, J1 ops k j = true -> Agree (U j) (Ut j) S S') -> WalkA (k + 1) rest (Cd N o.dst r F) S' false D res -> WalkA k (o :: rest) F S false D res
  | boom {k o rest F S D c Sx} : Al ops F o = some true -> ch k = true -> OpX P o F S c Sx -> WalkA (k + 1) rest (Cd N o.dst .any F) S true (k :: D) (.panic c Sx) -> WalkA k (o :: rest) F S false D (.panic c Sx)
  | dead {k o rest F S D res} : D.any (aft o) = true -> WalkA (k + 1) rest (Cd N o.dst .any F) S true (k :: D) res -> WalkA k (o :: rest) F S true D res
def Q5 (res : WRes) (D : List Nat) (Fs : Nat -> Nat -> PV) (Ss : Nat -> PS) (Rs : Nat -> PV) (dd : Nat -> Bool) (k j : Nat) : Prop :=
  ∃ o, ops[j]? = some o /\ Fs (j + 1) = Cd N o.dst (Rs j) (Fs j) /\
    ((dd j = true /\ Ss (j + 1) = Ss j /\ ((Al ops (Fs j) o = some true /\ ch j = true /\ ∃ c Sx, res = .panic c Sx /\ OpX P o (Fs j) (Ss j) c Sx) \/ ∃ i, (i ∈ D \/ (k <= i /\ i < j /\ dd i = true)) /\ aft o i = true)) \/
     (dd j = false /\ Al ops (Fs j) o = some false /\ Rs j = .un /\ Ss (j + 1) = Ss j) \/
     (dd j = false /\ Al ops (Fs j) o = some true /\ ch j = false /\ Ss (j + 1) = Ss j /\ ((∀ S', Agree (U j) (Ut j) (Ss j) S' -> OpS P o (Fs j) S' (Rs j) S') \/ (To ops ch j = true /\ OpS P o (Fs j) (Ss j) (Rs j) (Ss j)))) \/
     (dd j = false /\ Al ops (Fs j) o = some true /\ ch j = true /\ (∀ i, J1 ops j i = true -> Agree (U i) (Ut i) (Ss j) (Ss (j + 1))) /\ OpS P o (Fs j) (Ss j) (Rs j) (Ss (j + 1))))
end
section
variable {P : Program} {N : Nat} {ops : Array Oper} {ch : Nat -> Bool} {U Ut : Nat -> List Nat}
theorem Cu {res : WRes} {D D' : List Nat} {F : Nat -> PV} {S : PS} {r : PV} {b : Bool} {Fs : Nat -> Nat -> PV} {Ss : Nat -> PS} {Rs : Nat -> PV} {dd : Nat -> Bool} {k j : Nat} (hD : D' = D \/ (D' = k :: D /\ b = true)) (hj : k < j)
    (h : Q5 P N ops ch U Ut res D' Fs Ss Rs dd (k + 1) j) : Q5 P N ops ch U Ut res D (fun i => if i = k then F else Fs i) (fun i => if i = k then S else Ss i) (fun i => if i = k then r else Rs i) (fun i => if i = k then b else dd i) k j := by
  obtain ⟨o, ho, h1, h2⟩ := h
  have e1 : ¬ j = k := by omega
  have e2 : ¬ j + 1 = k := by omega
  refine ⟨o, ho, by simp only [if_neg e1, if_neg e2]; exact h1, ?_⟩
  simp only [if_neg e1, if_neg e2]
  rcases h2 with ⟨h3, h4, h5⟩ | h2
  . refine .inl ⟨h3, h4, ?_⟩
    rcases h5 with h5 | ⟨i, hi, ha⟩
    . exact .inl h5
    . refine .inr ⟨i, ?_, ha⟩
      rcases hi with hi | ⟨hi1, hi2, hi3⟩
      . rcases hD with rfl | ⟨rfl, rfl⟩
        . exact .inl hi
        . rcases List.mem_cons.1 hi with rfl | hi
          . exact .inr ⟨Nat.le_refl _, hj, by simp⟩
          . exact .inl hi
      . refine .inr ⟨by omega, hi2, ?_⟩
        rw [if_neg (by omega)]; exact hi3
  . exact .inr h2
theorem WalkA.isPanic {k : Nat} {rest : List Oper} {F : Nat -> PV} {S : PS} {bm : Bool} {D : List Nat} {res : WRes} (h : WalkA P N ops ch U Ut k rest F S bm D res) : bm = true -> ∃ c Sx, res = .panic c Sx := by
  induction h with
  | nil => intro h; cases h
  | nilX => intro _; exact ⟨_, _, rfl⟩
  | skip _ _ ih => exact ih
  | free _ _ _ _ ih => exact ih
  | pin _ _ _ _ _ ih => exact ih
  | chain _ _ _ _ _ ih => intro h; cases h
  | boom _ _ _ _ ih => intro h; cases h
  | dead _ _ ih => exact ih
theorem WalkA.seq {k : Nat} {rest : List Oper} {F : Nat -> PV} {S : PS} {bm : Bool} {D : List Nat} {res : WRes} (h : WalkA P N ops ch U Ut k rest F S bm D res) : (∀ j, rest[j]? = ops[k + j]?) ->
    ∃ (Fs : Nat -> Nat -> PV) (Ss : Nat -> PS) (Rs : Nat -> PV) (dd : Nat -> Bool), Fs k = F /\ Ss k = S /\ (∀ j, k <= j -> j < k + rest.length -> Q5 P N ops ch U Ut res D Fs Ss Rs dd k j) /\
      match res with
      | .done Fe Se => Fe = Fs (k + rest.length) /\ Se = Ss (k + rest.length) /\ (∀ j, k <= j -> j < k + rest.length -> dd j = false)
      | .panic _ _ => bm = true \/ ∃ j, k <= j /\ j < k + rest.length /\ dd j = true := by
  induction h with
  | @nil k F S D => intro _; exact ⟨fun _ => F, fun _ => S, fun _ => .any, fun _ => false, rfl, rfl, fun j h1 h2 => by simp at h2; omega, rfl, rfl, fun j _ _ => rfl⟩
  | @nilX k F S D c Sx => intro _; exact ⟨fun _ => F, fun _ => S, fun _ => .any, fun _ => false, rfl, rfl, fun j h1 h2 => by simp at h2; omega, .inl rfl⟩
  | @skip k o rest F S bm D res hg _ ih =>
    intro hr
    have ho : ops[k]? = some o := by simpa using (hr 0).symm
    obtain ⟨Fs, Ss, Rs, dd, h1, h2, h3, h4⟩ := ih (fun j => by have := hr (j + 1); simpa [Nat.add_assoc, Nat.add_comm 1 j] using this)
    refine ⟨fun i => if i = k then F else Fs i, fun i => if i = k then S else Ss i, fun i => if i = k then .un else Rs i, fun i => if i = k then false else dd i, by simp, by simp, fun j hj1 hj2 => ?_, ?_⟩
    . by_cases e : j = k
      . subst e
        exact ⟨o, ho, by simp [h1], .inr (.inl ⟨by simp, by simpa using hg, by simp, by simp [h2]⟩)⟩
      . exact Cu (.inl rfl) (by omega) (h3 j (by omega) (by simp at hj2; omega))
    . have e : ¬ k + (o :: rest).length = k := by simp
      have e2 : k + (o :: rest).length = k + 1 + rest.length := by simp; omega
      cases res with
      | done Fe Se =>
        obtain ⟨h5, h6, h7⟩ := h4
        refine ⟨by simp only [if_neg e]; rw [e2]; exact h5, by simp only [if_neg e]; rw [e2]; exact h6, fun j hj1 hj2 => ?_⟩
        by_cases e3 : j = k
        . simp [e3]
        . simp only [if_neg e3]; exact h7 j (by omega) (by omega)
      | panic c Sx =>
        rcases h4 with h4 | ⟨j, h5, h6, h7⟩
        . exact .inl h4
        . exact .inr ⟨j, by omega, by omega, by show (if j = k then _ else _) = true; rw [if_neg (by omega)]; exact h7⟩
  | @free k o rest F S bm D res r hg hc hf _ ih =>
    intro hr
    have ho : ops[k]? = some o := by simpa using (hr 0).symm
    obtain ⟨Fs, Ss, Rs, dd, h1, h2, h3, h4⟩ := ih (fun j => by have := hr (j + 1); simpa [Nat.add_assoc, Nat.add_comm 1 j] using this)
    refine ⟨fun i => if i = k then F else Fs i, fun i => if i = k then S else Ss i, fun i => if i = k then r else Rs i, fun i => if i = k then false else dd i, by simp, by simp, fun j hj1 hj2 => ?_, ?_⟩
    . by_cases e : j = k
      . subst e
        exact ⟨o, ho, by simp [h1], .inr (.inr (.inl ⟨by simp, by simpa using hg, hc, by simp [h2], .inl (by simpa using hf)⟩))⟩
      . exact Cu (.inl rfl) (by omega) (h3 j (by omega) (by simp at hj2; omega))
    . have e : ¬ k + (o :: rest).length = k := by simp
      have e2 : k + (o :: rest).length = k + 1 + rest.length := by simp; omega
      cases res with
      | done Fe Se =>
        obtain ⟨h5, h6, h7⟩ := h4
        refine ⟨by simp only [if_neg e]; rw [e2]; exact h5, by simp only [if_neg e]; rw [e2]; exact h6, fun j hj1 hj2 => ?_⟩
        by_cases e3 : j = k
        . simp [e3]
        . simp only [if_neg e3]; exact h7 j (by omega) (by omega)
      | panic c Sx =>
        rcases h4 with h4 | ⟨j, h5, h6, h7⟩
        . exact .inl h4
        . exact .inr ⟨j, by omega, by omega, by show (if j = k then _ else _) = true; rw [if_neg (by omega)]; exact h7⟩
  | @pin k o rest F S bm D res r hg hc hp hf _ ih =>
    intro hr
    have ho : ops[k]? = some o := by simpa using (hr 0).symm
    obtain ⟨Fs, Ss, Rs, dd, h1, h2, h3, h4⟩ := ih (fun j => by have := hr (j + 1); simpa [Nat.add_assoc, Nat.add_comm 1 j] using this)
    refine ⟨fun i => if i = k then F else Fs i, fun i => if i = k then S else Ss i, fun i => if i = k then r else Rs i, fun i => if i = k then false else dd i, by simp, by simp, fun j hj1 hj2 => ?_, ?_⟩
    . by_cases e : j = k
      . subst e
        exact ⟨o, ho, by simp [h1], .inr (.inr (.inl ⟨by simp, by simpa using hg, hc, by simp [h2], .inr ⟨hp, by simpa using hf⟩⟩))⟩
      . exact Cu (.inl rfl) (by omega) (h3 j (by omega) (by simp at hj2; omega))
    . have e : ¬ k + (o :: rest).length = k := by simp
      have e2 : k + (o :: rest).length = k + 1 + rest.length := by simp; omega
      cases res with
      | done Fe Se =>
        obtain ⟨h5, h6, h7⟩ := h4
        refine ⟨by simp only [if_neg e]; rw [e2]; exact h5, by simp only [if_neg e]; rw [e2]; exact h6, fun j hj1 hj2 => ?_⟩
        by_cases e3 : j = k
        . simp [e3]
        . simp only [if_neg e3]; exact h7 j (by omega) (by omega)
      | panic c Sx =>
        rcases h4 with h4 | ⟨j, h5, h6, h7⟩
        . exact .inl h4
        . exact .inr ⟨j, by omega, by omega, by show (if j = k then _ else _) = true; rw [if_neg (by omega)]; exact h7⟩
  | @chain k o rest F S S' D res r hg hc hf ha _ ih =>
    intro hr
    have ho : ops[k]? = some o := by simpa using (hr 0).symm
    obtain ⟨Fs, Ss, Rs, dd, h1, h2, h3, h4⟩ := ih (fun j => by have := hr (j + 1); simpa [Nat.add_assoc, Nat.add_comm 1 j] using this)
    refine ⟨fun i => if i = k then F else Fs i, fun i => if i = k then S else Ss i, fun i => if i = k then r else Rs i, fun i => if i = k then false else dd i, by simp, by simp, fun j hj1 hj2 => ?_, ?_⟩
    . by_cases e : j = k
      . subst e
        exact ⟨o, ho, by simp [h1], .inr (.inr (.inr ⟨by simp, by simpa using hg, hc, by simpa [h2] using ha, by simpa [h2] using hf⟩))⟩
      . exact Cu (.inl rfl) (by omega) (h3 j (by omega) (by simp at hj2; omega))
    . have e : ¬ k + (o :: rest).length = k := by simp
      have e2 : k + (o :: rest).length = k + 1 + rest.length := by simp; omega
      cases res with
      | done Fe Se =>
        obtain ⟨h5, h6, h7⟩ := h4
        refine ⟨by simp only [if_neg e]; rw [e2]; exact h5, by simp only [if_neg e]; rw [e2]; exact h6, fun j hj1 hj2 => ?_⟩
        by_cases e3 : j = k
        . simp [e3]
        . simp only [if_neg e3]; exact h7 j (by omega) (by omega)
      | panic c Sx =>
        rcases h4 with h4 | ⟨j, h5, h6, h7⟩
        . exact .inl h4
        . exact .inr ⟨j, by omega, by omega, by show (if j = k then _ else _) = true; rw [if_neg (by omega)]; exact h7⟩
  | @boom k o rest F S D c Sx hg hc hf _ ih =>
    intro hr
    have ho : ops[k]? = some o := by simpa using (hr 0).symm
    obtain ⟨Fs, Ss, Rs, dd, h1, h2, h3, h4⟩ := ih (fun j => by have := hr (j + 1); simpa [Nat.add_assoc, Nat.add_comm 1 j] using this)
    refine ⟨fun i => if i = k then F else Fs i, fun i => if i = k then S else Ss i, fun i => if i = k then .any else Rs i, fun i => if i = k then true else dd i, by simp, by simp, fun j hj1 hj2 => ?_, .inr ⟨k, Nat.le_refl _, by simp, by simp⟩⟩
    by_cases e : j = k
    . subst e
      exact ⟨o, ho, by simp [h1], .inl ⟨by simp, by simp [h2], .inl ⟨by simpa using hg, hc, c, Sx, rfl, by simpa using hf⟩⟩⟩
    . exact Cu (.inr ⟨rfl, rfl⟩) (by omega) (h3 j (by omega) (by simp at hj2; omega))
  | @dead k o rest F S D res hd hw ih =>
    intro hr
    have ho : ops[k]? = some o := by simpa using (hr 0).symm
    obtain ⟨Fs, Ss, Rs, dd, h1, h2, h3, h4⟩ := ih (fun j => by have := hr (j + 1); simpa [Nat.add_assoc, Nat.add_comm 1 j] using this)
    refine ⟨fun i => if i = k then F else Fs i, fun i => if i = k then S else Ss i, fun i => if i = k then .any else Rs i, fun i => if i = k then true else dd i, by simp, by simp, fun j hj1 hj2 => ?_, ?_⟩
    . by_cases e : j = k
      . subst e
        obtain ⟨i, hi, ha⟩ := List.any_eq_true.1 hd
        exact ⟨o, ho, by simp [h1], .inl ⟨by simp, by simp [h2], .inr ⟨i, .inl hi, ha⟩⟩⟩
      . exact Cu (.inr ⟨rfl, rfl⟩) (by omega) (h3 j (by omega) (by simp at hj2; omega))
    . cases res with
      | done Fe Se =>
        obtain ⟨c, Sx, h5⟩ := hw.isPanic rfl
        cases h5
      | panic c Sx => exact .inl rfl
structure Mid (P : Program) (N : Nat) (ops : Array Oper) (ch : Nat -> Bool) (res : WRes) (Fs : Nat -> Nat -> PV) (Ss : Nat -> PS) (Rs : Nat -> PV) (dd : Nat -> Bool) (K0 : Kx) (w0 : World) (ds : List Deferred) (fuel : Nat) (listed : Array Bool) (a : Act) (w : World) : Prop where
  size : listed.size = ops.size
  count : listed.toList.count false = fuel
  closed : ∀ i oi, listed.getD i false = true -> ops[i]? = some oi -> ∀ i', aft oi i' = true -> listed.getD i' false = true
  alive : ∀ i, listed.getD i false = true -> dd i = false
  tsize : a.tmps.size = N
  defers : a.defers = ds
  know : ∃ K p, Step K0 K w0 w /\ Inv K (Ss p) w /\ p <= ops.size /\ (∀ i, i < ops.size -> ch i = true -> (listed.getD i false = true <-> i < p)) /\
    (∀ t, (∀ i oi, ops[i]? = some oi -> listed.getD i false = true -> oi.dst = some t -> t < N -> Rep K w (Rs i) (a.tmps.getD t undef)) /\
      ((∀ i oi, ops[i]? = some oi -> listed.getD i false = true -> oi.dst = some t -> ¬ t < N) -> Rep K w (Fs 0 t) (a.tmps.getD t undef)))
end
section
variable {P : Program} {N : Nat} {ops : Array Oper} {ch : Nat -> Bool} {U Ut : Nat -> List Nat} {res : WRes} {Fs : Nat -> Nat -> PV} {Ss : Nat -> PS} {Rs : Nat -> PV} {dd : Nat -> Bool}
theorem Ii (hf : ∀ j, j < ops.size -> Q5 P N ops ch U Ut res [] Fs Ss Rs dd 0 j) (hB : Lp ops ch = true) : ∀ k, k <= ops.size -> ∀ t, (∀ i oi, i < k -> ops[i]? = some oi -> oi.dst = some t -> t < N -> Fs k t = Rs i) /\ ((∀ i oi, i < k -> ops[i]? = some oi -> oi.dst = some t -> ¬ t < N) -> Fs k t = Fs 0 t) := by
  intro k
  induction k with
  | zero => intro _ t; exact ⟨fun i _ h => by omega, fun _ => rfl⟩
  | succ k ih =>
    intro hk t
    obtain ⟨h1, h2⟩ := ih (by omega) t
    obtain ⟨o, ho, hF, _⟩ := hf k (by omega)
    have hsl := (C0 hB ho).1
    have hFt : Fs (k + 1) t = if o.dst = some t /\ t < N then Rs k else Fs k t := by
      rw [hF]
      cases hd : o.dst with
      | none => simp [Cd]
      | some d =>
        rw [Oq]
        by_cases e : t = d
        . subst e; simp
        . simp [e, Ne.symm e]
    refine ⟨fun i oi hi hoi hd ht => ?_, fun h => ?_⟩
    . by_cases e : i = k
      . subst e
        rw [ho] at hoi; cases hoi
        rw [hFt, if_pos ⟨hd, ht⟩]
      . rw [hFt, if_neg (fun hc => Hc hsl hoi (by omega) hd hc.1)]
        exact h1 i oi (by omega) hoi hd ht
    . rw [hFt, if_neg (fun hc => h k o (by omega) ho hc.1 hc.2)]
      exact h2 fun i oi hi => h i oi (by omega)
theorem Cv (hf : ∀ j, j < ops.size -> Q5 P N ops ch U Ut res [] Fs Ss Rs dd 0 j) {x : Nat} : ∀ y, x <= y -> y <= ops.size -> (∀ i, x <= i -> i < y -> ch i = false) -> Ss y = Ss x := by
  intro y hxy
  obtain ⟨d, rfl⟩ : ∃ d, y = x + d := ⟨y - x, by omega⟩
  clear hxy
  induction d with
  | zero => intro _ _; rfl
  | succ d ih =>
    intro hn hc
    rw [<- ih (by omega) fun i h1 h2 => hc i h1 (by omega)]
    obtain ⟨o, ho, hF, h⟩ := hf (x + d) (by omega)
    have := hc (x + d) (by omega) (by omega)
    rcases h with ⟨_, h, _⟩ | ⟨_, _, _, h⟩ | ⟨_, _, _, h, _⟩ | ⟨_, _, h, _⟩
    . exact h
    . exact h
    . exact h
    . rw [this] at h; cases h
theorem G1 (hf : ∀ j, j < ops.size -> Q5 P N ops ch U Ut res [] Fs Ss Rs dd 0 j) {x z : Nat} : ∀ y, x <= y -> y <= ops.size -> (∀ i, x <= i -> i < y -> ch i = true -> J1 ops i z = true) -> Agree (U z) (Ut z) (Ss x) (Ss y) := by
  intro y hxy
  obtain ⟨d, rfl⟩ : ∃ d, y = x + d := ⟨y - x, by omega⟩
  clear hxy
  induction d with
  | zero => intro _ _; exact Agree.refl _
  | succ d ih =>
    intro hn hc
    refine (ih (by omega) fun i h1 h2 => hc i h1 (by omega)).trans ?_
    obtain ⟨o, ho, hF, h⟩ := hf (x + d) (by omega)
    have := hc (x + d) (by omega) (by omega)
    rcases h with ⟨_, h, _⟩ | ⟨_, _, _, h⟩ | ⟨_, _, _, h, _⟩ | ⟨_, _, hch, h, _⟩
    . rw [show x + (d + 1) = x + d + 1 from rfl, h]; exact Agree.refl _
    . rw [show x + (d + 1) = x + d + 1 from rfl, h]; exact Agree.refl _
    . rw [show x + (d + 1) = x + d + 1 from rfl, h]; exact Agree.refl _
    . exact h z (this hch)
theorem Dk (hB : Lp ops ch = true) {listed : Array Bool} (hc : ∀ i oi, listed.getD i false = true -> ops[i]? = some oi -> ∀ i', aft oi i' = true -> listed.getD i' false = true) :
    ∀ d i j oj, j - i <= d -> i < j -> ops[j]? = some oj -> ch i = true -> ch j = true -> (∀ i', aft oj i' = true -> listed.getD i' false = true) -> listed.getD i false = true := by
  intro d
  induction d with
  | zero => intro i j oj h1 h2; omega
  | succ d ih =>
    intro i j oj h1 h2 hj hi hcj haft
    have h3 := (C0 hB hj).2
    simp only [T3, hcj, Bool.not_true, Bool.false_or] at h3
    have h4 := List.all_eq_true.1 h3 i (by simpa using h2)
    simp only [hi, Bool.not_true, Bool.false_or, Bool.or_eq_true] at h4
    rcases h4 with h4 | h4
    . exact haft i h4
    . obtain ⟨m, hm, h5⟩ := List.any_eq_true.1 h4
      simp only [Bool.and_eq_true, decide_eq_true_eq, List.mem_range] at h5 hm
      have hjs := (Array.getElem?_eq_some_iff.1 hj).1
      have h6 := ih m j oj (by omega) hm hj h5.2 hcj haft
      have hom : ops[m]? = some ops[m] := Array.getElem?_eq_getElem (by omega)
      exact ih i m _ (by omega) h5.1 hom hi h5.2 fun i' ha => hc m _ h6 hom i' ha
variable {K0 : Kx} {w0 : World} {ds : List Deferred} {Q : Exit -> Act -> World -> Prop}
theorem Lo (hB : Lp ops ch = true) {listed : Array Bool} (hs : listed.size = ops.size) (h : Region.ready .any ops listed = []) : ∀ i, i < ops.size -> listed.getD i false = true := by
  intro i
  induction i using Nat.strongRecOn with
  | _ i ih =>
    intro hi
    by_cases e : listed.getD i false = true
    . exact e
    . exfalso
      have ho : ops[i]? = some ops[i] := Array.getElem?_eq_getElem hi
      have : i ∈ Region.ready .any ops listed := by
        refine mem_ready.2 ⟨?_, _, ho, fun x hx hb => ?_⟩
        . have hlt : i < listed.size := by omega
          simp [Array.getD_eq_getD_getElem?, hlt] at e |-
          exact e
        . have ha : aft ops[i] x.on = true := Array.any_eq_true'.2 ⟨x, hx, by simp [hb]⟩
          have hlt := O7 (C0 hB ho).1 ha
          exact ih x.on hlt (by omega)
      rw [h] at this
      cases this
theorem Mid.finish (hf : ∀ j, j < ops.size -> Q5 P N ops ch U Ut res [] Fs Ss Rs dd 0 j) (hB : Lp ops ch = true)
    (hres : match res with | .done Fe Se => Fe = Fs ops.size /\ Se = Ss ops.size | .panic _ _ => ∃ j, j < ops.size /\ dd j = true) (hE : Aem N K0 w0 ds Q res)
    {fuel : Nat} {listed : Array Bool} {a : Act} {w : World} (hM : Mid P N ops ch res Fs Ss Rs dd K0 w0 ds fuel listed a w) (hall : ∀ i, i < ops.size -> listed.getD i false = true) : Q .normal a w := by
  obtain ⟨K, p, hs, hI, hp, hch, hk⟩ := hM.know
  cases res with
  | panic c Sx =>
    obtain ⟨j, hj, hd⟩ := hres
    rw [hM.alive j (hall j hj)] at hd; cases hd
  | done Fe Se =>
    obtain ⟨rfl, rfl⟩ := hres
    have hSS : Ss ops.size = Ss p := Cv hf _ hp (Nat.le_refl _) fun i h1 h2 => by
      cases e : ch i with
      | false => rfl
      | true => exact absurd ((hch i h2 e).1 (hall i h2)) (by omega)
    refine hE K a w hs (by rw [hSS]; exact hI) ⟨hM.tsize, fun t => ?_⟩ hM.defers
    obtain ⟨h1, h2⟩ := Ii hf hB ops.size (Nat.le_refl _) t
    obtain ⟨h3, h4⟩ := hk t
    by_cases e : ∃ (i : Nat) (oi : Oper), ops[i]? = some oi /\ oi.dst = some t /\ t < N
    . obtain ⟨i, oi, hoi, hd, ht⟩ := e
      have hi := (Array.getElem?_eq_some_iff.1 hoi).1
      rw [h1 i oi hi hoi hd ht]
      exact h3 i oi hoi (hall i hi) hd ht
    . rw [h2 fun i oi _ hoi hd ht => e ⟨i, oi, hoi, hd, ht⟩]
      exact h4 fun i oi hoi _ hd ht => e ⟨i, oi, hoi, hd, ht⟩
theorem Cr {listed : Array Bool} {j i : Nat} (hj : j < listed.size) : (listed.setIfInBounds j true).getD i false = if i = j then true else listed.getD i false := by
  by_cases e : i = j
  . subst e; simp [Array.getD_eq_getD_getElem?, hj]
  . simp [Array.getD_eq_getD_getElem?, Array.getElem?_setIfInBounds_ne (Ne.symm e), e]
theorem Mid.next (hf : ∀ j, j < ops.size -> Q5 P N ops ch U Ut res [] Fs Ss Rs dd 0 j) (hB : Lp ops ch = true) (hI0 : Inv K0 (Ss 0) w0)
    {fuel : Nat} {listed : Array Bool} {a : Act} {w : World} (hM : Mid P N ops ch res Fs Ss Rs dd K0 w0 ds (fuel + 1) listed a w) {j : Nat} (hj : j ∈ Region.ready .any ops listed) {o : Oper} (ho : ops[j]? = some o) (hal : dd j = false)
    {K K' : Kx} {p : Nat} {w' : World} {v : Value} (hs0 : Step K0 K w0 w) (hs : Step K K' w w') (hr : Rep K' w' (Rs j) v)
    (hch : ∀ i, i < ops.size -> ch i = true -> (listed.getD i false = true <-> i < p))
    (hk : ∀ t, (∀ i oi, ops[i]? = some oi -> listed.getD i false = true -> oi.dst = some t -> t < N -> Rep K w (Rs i) (a.tmps.getD t undef)) /\
      ((∀ i oi, ops[i]? = some oi -> listed.getD i false = true -> oi.dst = some t -> ¬ t < N) -> Rep K w (Fs 0 t) (a.tmps.getD t undef)))
    (hI' : Inv K' (Ss (if ch j then j + 1 else p)) w') (hp : p <= ops.size) : Mid P N ops ch res Fs Ss Rs dd K0 w0 ds fuel (listed.setIfInBounds j true) (a.put o.dst v) w' := by
  have hjs := (Array.getElem?_eq_some_iff.1 ho).1
  have hjl : j < listed.size := by rw [hM.size]; exact hjs
  have hun : listed.getD j false = false := by
    have := (mem_ready.1 hj).1
    simp [Array.getD_eq_getD_getElem?, hjl] at this |-
    exact this
  have hdist : ∀ i oi t, i ≠ j -> ops[i]? = some oi -> oi.dst = some t -> o.dst ≠ some t := by
    intro i oi t hne hoi hd hc
    rcases Nat.lt_or_ge i j with hlt | hge
    . exact Hc (C0 hB ho).1 hoi hlt hd hc
    . exact Hc (C0 hB hoi).1 ho (by omega) hc hd
  refine ⟨by simp [hM.size], ?_, fun i oi hi hoi i' ha => ?_, fun i hi => ?_, by rw [Sf]; exact hM.tsize, by rw [D5]; exact hM.defers, ?_⟩
  . have hc := hM.count
    rw [Array.toList_setIfInBounds, List.count_set (by simpa using hjl), hc]
    have : listed.toList[j]'(by simpa using hjl) = false := by
      simp [Array.getD_eq_getD_getElem?, hjl] at hun
      simpa using hun
    simp [this]
  . rw [Cr hjl] at hi |-
    by_cases e : i = j
    . subst e
      rw [ho] at hoi; cases hoi
      have := Cw hj ho ha
      split
      . rfl
      . exact this
    . rw [if_neg e] at hi
      have := hM.closed i oi hi hoi i' ha
      split
      . rfl
      . exact this
  . rw [Cr hjl] at hi
    by_cases e : i = j
    . subst e; exact hal
    . rw [if_neg e] at hi; exact hM.alive i hi
  . refine ⟨K', if ch j then j + 1 else p, hs0.trans hI0 hs, hI', by split <;> omega, fun i hi hci => ?_, fun t => ?_⟩
    . rw [Cr hjl]
      by_cases ecj : ch j = true
      . rw [if_pos ecj]
        by_cases e : i = j
        . subst e; simp
        . rw [if_neg e]
          constructor
          . intro h
            rcases Nat.lt_or_ge j i with hlt | hge
            . have h5 : listed.getD j false = true := Dk hB hM.closed (i - j) j i _ (Nat.le_refl _) hlt (Array.getElem?_eq_getElem hi) ecj hci fun i' ha => hM.closed i _ h (Array.getElem?_eq_getElem hi) i' ha
              rw [hun] at h5; cases h5
            . omega
          . intro h
            exact Dk hB hM.closed (j - i) i j o (Nat.le_refl _) (by omega) ho hci ecj fun i' ha => Cw hj ho ha
      . rw [if_neg ecj, if_neg (by rintro rfl; exact ecj hci)]
        exact hch i hi hci
    . obtain ⟨h1, h2⟩ := hk t
      rw [Nm hM.tsize]
      refine ⟨fun i oi hoi hli hd ht => ?_, fun h => ?_⟩
      . rw [Cr hjl] at hli
        by_cases e : i = j
        . subst e
          rw [ho] at hoi; cases hoi
          rw [hd]; dsimp only
          rw [if_pos ⟨rfl, ht⟩]; exact hr
        . rw [if_neg e] at hli
          have hne := hdist i oi t e hoi hd
          have h3 := Rep.step hs _ _ (h1 i oi hoi hli hd ht)
          cases hod : o.dst with
          | none => exact h3
          | some d =>
            dsimp only
            rw [if_neg (fun hc => hne (by rw [hod, hc.1]))]; exact h3
      . have h3 := Rep.step hs _ _ (h2 fun i oi hoi hli hd => h i oi hoi (by
          rw [Cr hjl]
          split
          . rfl
          . exact hli) hd)
        cases hod : o.dst with
        | none => exact h3
        | some d =>
          dsimp only
          rw [if_neg (fun hc => h j o ho (by rw [Cr hjl, if_pos rfl]) (by rw [hod, hc.1]) (by rw [hc.1]; exact hc.2))]; exact h3
theorem Mid.any {ro : Option Nat} {mm : Nat} (hf : ∀ j, j < ops.size -> Q5 P N ops ch U Ut res [] Fs Ss Rs dd 0 j) (hB : Lp ops ch = true) (hI0 : Inv K0 (Ss 0) w0)
    (hres : match res with | .done Fe Se => Fe = Fs ops.size /\ Se = Ss ops.size | .panic _ _ => ∃ j, j < ops.size /\ dd j = true) (hE : Aem N K0 w0 ds Q res) :
    ∀ (fuel : Nat) (listed : Array Bool) (a : Act) (w : World), Mid P N ops ch res Fs Ss Rs dd K0 w0 ds fuel listed a w -> wpAnyIn (fen ro) mm P .any ops Q fuel listed a w := by
  intro fuel
  induction fuel with
  | zero =>
    intro listed a w hM
    have hall : ∀ i, i < ops.size -> listed.getD i false = true := by
      intro i hi
      have h0 := List.count_eq_zero.1 hM.count
      have hlt : i < listed.size := by rw [hM.size]; exact hi
      cases e : listed.getD i false with
      | true => rfl
      | false =>
        exfalso; apply h0
        simp [Array.getD_eq_getD_getElem?, hlt] at e
        rw [<- e]; simp
    refine ⟨?_, hM.finish hf hB hres hE hall⟩
    cases e : Region.ready .any ops listed with
    | nil => rfl
    | cons j r =>
      have hj : j ∈ Region.ready .any ops listed := by rw [e]; simp
      obtain ⟨h1, o, ho, _⟩ := mem_ready.1 hj
      have hjs := (Array.getElem?_eq_some_iff.1 ho).1
      have h2 := hall j hjs
      have hlt : j < listed.size := by rw [hM.size]; exact hjs
      simp [Array.getD_eq_getD_getElem?, hlt] at h1 h2
      rw [h1] at h2; cases h2
  | succ fuel ih =>
    intro listed a w hM
    refine ⟨fun h => hM.finish hf hB hres hE (Lo hB hM.size h), fun j hj => ?_⟩
    obtain ⟨hunl, o, ho, _⟩ := mem_ready.1 hj
    have hjs := (Array.getElem?_eq_some_iff.1 ho).1
    have hjl : j < listed.size := by rw [hM.size]; exact hjs
    have hun : listed.getD j false = false := by
      simp [Array.getD_eq_getD_getElem?, hjl] at hunl |-
      exact hunl
    have hsl := (C0 hB ho).1
    obtain ⟨K, p, hs, hI, hp, hch, hk⟩ := hM.know
    have hsee : ∀ t, t ∈ o.looksAt ops -> Rep K w (Fs j t) (a.tmps.getD t undef) := by
      intro t ht
      obtain ⟨h1, h2⟩ := Ii hf hB j (Nat.le_of_lt hjs) t
      obtain ⟨h3, h4⟩ := hk t
      by_cases e : ∃ (i : Nat) (oi : Oper), i < j /\ ops[i]? = some oi /\ oi.dst = some t /\ t < N
      . obtain ⟨i, oi, hi, hoi, hd, htN⟩ := e
        rw [h1 i oi hi hoi hd htN]
        have h5 := Jp hsl ht hoi hd (by omega)
        rw [if_pos hi] at h5
        exact h3 i oi hoi (Cw hj ho h5) hd htN
      . rw [h2 fun i oi hi hoi hd htN => e ⟨i, oi, hi, hoi, hd, htN⟩]
        refine h4 fun i oi hoi hli hd htN => ?_
        by_cases hij : i < j
        . exact e ⟨i, oi, hij, hoi, hd, htN⟩
        . have hne : i ≠ j := by rintro rfl; rw [hun] at hli; cases hli
          have h5 := Jp hsl ht hoi hd hne
          rw [if_neg hij] at h5
          have := hM.closed i oi hli hoi j h5
          rw [hun] at this; cases this
    have hops : ∀ x ∈ o.op.operands, Rep K w (evP (Fs j) x) (a.eval x) := by
      intro x hx
      cases x with
      | tmp t => exact hsee t (List.mem_append_left _ (List.mem_filterMap.2 ⟨.tmp t, by simpa using hx, rfl⟩))
      | const v =>
        simp only [evP, Y4, Act.eval]
        split
        . rename_i hv; exact D6 hv
        . simp [Rep]
      | global g => simp [evP, Rep]
      | func f => simp only [evP, Act.eval, Rep]; exact ⟨[], rfl, by simp [Ap]⟩
    have hguard : ∀ b, Al ops (Fs j) o = some b -> Region.wanted o (yielded ops a.tmps) = b := fun b hb =>
      E6 hb (K := K) (w := w) fun g want d hg hd => hsee d (List.mem_append_right _ (by simp [hg, hd]))
    have hbelow : ∀ i, i < j -> ch i = true -> ch j = true -> listed.getD i false = true := fun i hi hci hcj => Dk hB hM.closed (j - i) i j o (Nat.le_refl _) hi ho hci hcj fun i' ha => Cw hj ho ha
    have hSp : ch j = true -> Ss p = Ss j := by
      intro hcj
      rcases Nat.le_total p j with hpj | hpj
      . exact (Cv hf j hpj (Nat.le_of_lt hjs) fun i h1 h2 => by
          cases e : ch i with
          | false => rfl
          | true => exact absurd ((hch i (by omega) e).1 (hbelow i h2 e hcj)) (by omega)).symm
      . refine Cv hf p hpj hp fun i h1 h2 => ?_
        cases e : ch i with
        | false => rfl
        | true =>
          exfalso
          have hli := (hch i (by omega) e).2 h2
          rcases Nat.lt_or_ge j i with hlt | hge
          . have := Dk hB hM.closed (i - j) j i _ (Nat.le_refl _) hlt (Array.getElem?_eq_getElem (show i < ops.size by omega)) hcj e fun i' ha => hM.closed i _ hli (Array.getElem?_eq_getElem (show i < ops.size by omega)) i' ha
            rw [hun] at this; cases this
          . obtain rfl : i = j := by omega
            rw [hun] at hli; cases hli
    obtain ⟨o', ho', hF, hcase⟩ := hf j hjs
    rw [ho] at ho'; cases ho'
    unfold wpOpIn
    simp only [ho]
    rcases hcase with ⟨hdd, _, hX | ⟨i, hi, ha⟩⟩ | ⟨hdd, hg, hRs, hSS⟩ | ⟨hdd, hg, hcj, hSS, hfree⟩ | ⟨hdd, hg, hcj, hag, hop⟩
    . obtain ⟨hg, hcj, c, Sx, rfl, hX⟩ := hX
      rw [if_pos (hguard _ hg)]
      refine (hX ro mm K w a _ Q (by rw [<- hSp hcj]; exact hI) hops fun w' K' h1 h2 => ?_)
      exact hE K' a w' (hs.trans hI0 h1) h2 hM.tsize hM.defers
    . exfalso
      rcases hi with hi | ⟨_, _, hi⟩
      . cases hi
      . rw [hM.alive i (Cw hj ho ha)] at hi; cases hi
    . rw [if_neg (by rw [hguard _ hg]; simp)]
      refine ⟨fun _ _ => trivial, ?_⟩
      refine ih _ _ _ (hM.next hf hB hI0 hj ho hdd hs (Step.refl K w) (by rw [hRs]; simp [Rep]) hch hk ?_ hp)
      split
      . rename_i hcj
        rw [hSS, <- hSp hcj]; exact hI
      . exact hI
    . rw [if_pos (hguard _ hg)]
      have hop : OpS P o (Fs j) (Ss p) (Rs j) (Ss p) := by
        rcases hfree with hfree | ⟨hpin, hfree⟩
        . refine hfree _ ?_
          rcases Nat.le_total p j with hpj | hpj
          . refine (G1 hf j hpj (Nat.le_of_lt hjs) fun i h1 h2 e => ?_).symm
            unfold J1
            rw [Array.getElem?_eq_getElem (show i < ops.size by omega), ho]
            simp only [if_pos h2, Bool.not_eq_true']
            cases h3 : aft o i with
            | false => rfl
            | true => exact absurd ((hch i (by omega) e).1 (Cw hj ho h3)) (by omega)
          . refine G1 hf p hpj hp fun i h1 h2 e => ?_
            unfold J1
            rw [Array.getElem?_eq_getElem (show i < ops.size by omega), ho]
            simp only [if_neg (show ¬ i < j by omega), Bool.not_eq_true']
            cases h3 : aft ops[i] j with
            | false => rfl
            | true =>
              exfalso
              have := hM.closed i _ ((hch i (by omega) e).2 h2) (Array.getElem?_eq_getElem (show i < ops.size by omega)) j h3
              rw [hun] at this; cases this
        . have hpn : Ss p = Ss j := by
            have hp1 : ∀ i, i < ops.size -> ch i = true -> i ≠ j -> if i < j then aft o i = true else ∃ oi : Oper, ops[i]? = some oi /\ aft oi j = true := by
              intro i hi hci hne
              unfold To at hpin
              rw [ho] at hpin
              have h1 := List.all_eq_true.1 hpin i (by simpa using hi)
              rw [Array.getElem?_eq_getElem hi] at h1
              simp only [hci, Bool.not_true, Bool.false_or, Bool.or_eq_true, beq_iff_eq] at h1
              rcases h1 with h1 | h1
              . exact absurd h1 hne
              . split at h1 <;> rename_i hlt
                . rw [if_pos hlt]; exact h1
                . rw [if_neg hlt]; exact ⟨_, Array.getElem?_eq_getElem hi, h1⟩
            rcases Nat.le_total p j with hpj | hpj
            . exact (Cv hf j hpj (Nat.le_of_lt hjs) fun i h1 h2 => by
                cases e : ch i with
                | false => rfl
                | true =>
                  have h3 := hp1 i (by omega) e (by omega)
                  rw [if_pos h2] at h3
                  exact absurd ((hch i (by omega) e).1 (Cw hj ho h3)) (by omega)).symm
            . refine Cv hf p hpj hp fun i h1 h2 => ?_
              cases e : ch i with
              | false => rfl
              | true =>
                exfalso
                have hne : i ≠ j := by rintro rfl; rw [hcj] at e; cases e
                have h3 := hp1 i (by omega) e hne
                rw [if_neg (by omega)] at h3
                obtain ⟨oi, hoi, h4⟩ := h3
                have := hM.closed i oi ((hch i (by omega) e).2 h2) hoi j h4
                rw [hun] at this; cases this
          rw [hpn]; exact hfree
      refine (hop ro mm K w a _ Q hI hops fun v w' K' h1 h2 h3 => ?_)
      exact ih _ _ _ (hM.next hf hB hI0 hj ho hdd hs h1 h3 hch hk (by rw [if_neg (by rw [hcj]; simp)]; exact h2) hp)
    . rw [if_pos (hguard _ hg)]
      refine (hop ro mm K w a _ Q (by rw [<- hSp hcj]; exact hI) hops fun v w' K' h1 h2 h3 => ?_)
      exact ih _ _ _ (hM.next hf hB hI0 hj ho hdd hs h1 h3 hch hk (by rw [if_pos hcj]; exact h2) hp)
end
theorem Ge {ro : Option Nat} {mm : Nat} {P : Program} {N id : Nat} {ops : List Oper} {ch : Nat -> Bool} {U Ut : Nat -> List Nat} {Q : Exit -> Act -> World -> Prop} {F : Nat -> PV} {S : PS} {res : WRes} {K : Kx} {w : World} {a : Act} (hm : P.follows .mixedOrders = true) (hB : Lp ops.toArray ch = true)
    (h : WalkA P N ops.toArray ch U Ut 0 ops F S false [] res) (hI : Inv K S w) (hF : FrameRep K w N F a) (hE : Aem N K w a.defers Q res) : (Code.region id ops.toArray true).wpIn (fen ro) mm P Q a w := by
  refine wpIn_region_any hm ?_
  obtain ⟨Fs, Ss, Rs, dd, h1, h2, h3, h4⟩ := h.seq (fun j => by simp)
  obtain ⟨hI', hs'⟩ := hI.below (w' := { w with drawn := w.drawn + 1 }) ⟨rfl, rfl, rfl, Nat.le_refl _, fun _ _ => rfl⟩
  have hsz : ops.toArray.size = ops.length := by simp
  refine Mid.any (res := res) (Fs := Fs) (Ss := Ss) (Rs := Rs) (dd := dd) (K0 := K) (w0 := w) (ds := a.defers) (fun j hj => h3 j (Nat.zero_le _) (by omega)) hB (by rw [h2]; exact hI) ?_ hE _ _ _ _ ?_
  . cases res with
    | done Fe Se =>
      obtain ⟨h5, h6, _⟩ := h4
      exact ⟨by rw [hsz]; simpa using h5, by rw [hsz]; simpa using h6⟩
    | panic c Sx =>
      rcases h4 with h4 | ⟨j, _, h5, h6⟩
      . cases h4
      . exact ⟨j, by omega, h6⟩
  . have hg : ∀ i, (Array.replicate ops.toArray.size false).getD i false = false := by
      intro i
      simp only [Array.getD_eq_getD_getElem?, Array.getElem?_replicate]
      split <;> rfl
    refine ⟨by simp, by simp, fun i _ hi => (by rw [hg] at hi; cases hi), fun i hi => (by rw [hg] at hi; cases hi), hF.size, rfl, K, 0, hs', by rw [h2]; exact hI', Nat.zero_le _, fun i _ _ => ⟨fun hi => (by rw [hg] at hi; cases hi), fun hi => by omega⟩, fun t => ⟨fun i _ _ hi => (by rw [hg] at hi; cases hi), fun _ => ?_⟩⟩
    rw [h1]
    exact Rep.step hs' _ _ (hF.rep t)
structure WB (P : Program) (N : Nat) (ops : Array Oper) (ch : Nat -> Bool) (U Ut : Nat -> List Nat) (k : Nat) (rest : List Oper) (F : Nat -> PV) (S : PS) (bm : Bool) (D : List Nat) (q : WRes -> Prop) : Prop where
  ex : ∃ res, WalkA P N ops ch U Ut k rest F S bm D res /\ q res
theorem pw_regionB {P : Program} {N : Nat} {F : Nat -> PV} {S : PS} {Q : Exit -> (Nat -> PV) -> PS -> Prop} {id : Nat} {ops : List Oper} (ch : Nat -> Bool) (U Ut : Nat -> List Nat) (hm : P.follows .mixedOrders = true) (hB : Lp ops.toArray ch = true) (h : WB P N ops.toArray ch U Ut 0 ops F S false [] (Adg Q)) : PW P N (.region id ops.toArray true) Q F S := by
  refine ⟨fun ro mm K w a hI hF => ?_⟩
  obtain ⟨res, h1, h2⟩ := h.ex
  exact Ge hm hB h1 hI hF (N7 h2)
end Bw
end Go.Proofs.YtjagmmmcibdibaaGreatDoor
namespace Go.Proofs.YtjagmmmcibdibaaGreatDoor
open Go.RowKit
noncomputable section
theorem Ahy (S : PS) {k : Nat} {p : PV} {l : List (List DV)} (h : (⟨[], []⟩ : PS).toS k p = some l) : S.toS k p = some l := by
  unfold PS.toS at h |-
  split at h
  . exact h
  . exact h
  . simp at h
  . cases h
theorem toD_up (S : PS) {p : PV} {c : DV} (h : (⟨[], []⟩ : PS).toD p = some c) : S.toD p = some c := by
  unfold PS.toD at h |-
  cases p with
  | d c => exact h
  | hd t n => simp at h
  | _ => cases h
theorem Ahx (S : PS) : ∀ {l : List PV} {ds : List DV}, (⟨[], []⟩ : PS).toDs l = some ds -> S.toDs l = some ds
  | [], ds, h => h
  | p :: r, ds, h => by
    unfold PS.toDs at h |-
    split at h
    . rename_i d ds' h1 h2
      rw [toD_up S h1, Ahx S h2]; exact h
    . cases h
section
variable {T : Nat -> TyI} {ok : Nat -> Bool} {F : Nat -> PV} {S1 : PS} {C : Prop} {r : PV} (S : PS)
theorem Sz {p : PV} (h : Yp ⟨[], []⟩ p = some (C, r, S1)) : Yp S p = some (C, r, S) := by cases p <;> cases h <;> rfl
theorem stBin_up {op : BinOp} {t : TypeId} {x y : Operand} (h : Sw T ok F ⟨[], []⟩ op t x y = some (C, r, S1)) : Sw T ok F S op t x y = some (C, r, S) := by
  unfold Sw at h |-
  generalize evP F x = a at h |-
  generalize evP F y = b at h |-
  split at h
  . rename_i k a k' b
    try dsimp only
    cases hk : (k == k') <;> simp only [hk, cond_true, cond_false] at h |-
    . cases h
    . cases op <;> first | (cases h; rfl) | cases h
  . cases op <;> first | (cases h; rfl) | cases h
  . try dsimp only
    cases hk : (ok t && Nat.beq (T t).kind 6) <;> simp only [hk, cond_true, cond_false] at h |-
    . cases h
    . cases op <;> first | (cases h; rfl) | cases h
  . cases h
theorem stUn_up {op : UnOp} {x : Operand} (h : stUn F ⟨[], []⟩ op x = some (C, r, S1)) : stUn F S op x = some (C, r, S) := by
  unfold stUn at h |-
  generalize evP F x = a at h |-
  split at h
  . cases h; rfl
  . cases h; rfl
  . cases h
theorem Ahr {src dst : TypeId} {x : Operand} (h : Lf T ok F ⟨[], []⟩ src dst x = some (C, r, S1)) : Lf T ok F S src dst x = some (C, r, S) := by
  unfold Lf at h |-
  generalize evP F x = a at h |-
  cases hk : (ok src && ok dst) <;> simp only [hk, cond_true, cond_false] at h |-
  . cases h
  . split at h
    . try dsimp only
      cases hb : Nat.beq (T dst).kind 5 <;> simp only [hb, cond_true, cond_false] at h |- <;> cases h
      rfl
    . try dsimp only
      cases hb : Nat.beq (T dst).kind 1 <;> simp only [hb, cond_true, cond_false] at h |- <;> cases h
      rfl
    . cases h
theorem Ac3 {t : TypeId} {x : Operand} {lo hi : Option Operand} (h : Hy T ok F ⟨[], []⟩ t x lo hi = some (C, r, S1)) : Hy T ok F S t x lo hi = some (C, r, S) := by
  unfold Hy at h |-
  generalize evP F x = a at h |-
  cases hk : ok t <;> simp only [hk, cond_true, cond_false] at h |-
  . cases h
  . split at h
    . try dsimp only
      cases hb : Nat.beq (T t).kind 1 <;> simp only [hb, cond_true, cond_false] at h |-
      . cases h
      . split at h
        . rename_i h1 h2; (try rw [h1, h2]); cases h; rfl
        . cases h
    . rename_i p hne
      cases hb : Nat.beq (T t).kind 2 <;> simp only [hb, cond_true, cond_false] at h |-
      . cases h
      . split at h
        . rename_i l hl
          rw [Ahy S hl]
          try dsimp only
          split at h
          . rename_i h1 h2; (try rw [h1, h2]); cases h; rfl
          . cases h
        . cases h
theorem Acz {s : TypeId} {x : Operand} {f : Nat} (h : Hw T ok F ⟨[], []⟩ s x f = some (C, r, S1)) : Hw T ok F S s x f = some (C, r, S) := by
  unfold Hw at h |-
  generalize evP F x = a at h |-
  cases hk : (ok s && Nat.beq (T s).kind 4) <;> simp only [hk, cond_true, cond_false] at h |-
  . cases h
  . split at h
    . rename_i h1
      (try rw [h1])
      split at h
      . cases h; rfl
      . rename_i off _ _ l
        try dsimp only
        cases hb : Nat.ble off l.length <;> simp only [hb, cond_true, cond_false] at h |- <;> cases h
        rfl
      . cases h
    . cases h
theorem Yr {t : TypeId} {x y : Operand} (h : Fu T ok F ⟨[], []⟩ t x y = some (C, r, S1)) : Fu T ok F S t x y = some (C, r, S) := by
  unfold Fu at h |-
  generalize evP F x = a at h |-
  generalize evP F y = b at h |-
  cases hk : ok t <;> simp only [hk, cond_true, cond_false] at h |-
  . cases h
  . split at h
    . try dsimp only
      cases hb : Nat.beq (T t).kind 3 <;> simp only [hb, cond_true, cond_false] at h |- <;> cases h
      rfl
    . try dsimp only
      cases hb : Nat.beq (T t).kind 2 <;> simp only [hb, cond_true, cond_false] at h |- <;> cases h
      rfl
    . cases h
theorem S5 {t : TypeId} {x y : Operand} (h : Do T ok F ⟨[], []⟩ t x y = some (C, r, S1)) : Do T ok F S t x y = some (C, r, S) := by
  unfold Do at h |-
  generalize evP F x = a at h |-
  generalize evP F y = b at h |-
  cases hk : (ok t && Nat.beq (T t).kind 1) <;> simp only [hk, cond_true, cond_false] at h |-
  . cases h
  . split at h
    . cases h; rfl
    . cases h
theorem stLen_up {t : TypeId} {x : Operand} (h : S6 T ok F ⟨[], []⟩ t x = some (C, r, S1)) : S6 T ok F S t x = some (C, r, S) := by
  unfold S6 at h |-
  generalize evP F x = a at h |-
  cases hk : ok t <;> simp only [hk, cond_true, cond_false] at h |-
  . cases h
  . split at h
    . try dsimp only
      cases hb : Nat.beq (T t).kind 1 <;> simp only [hb, cond_true, cond_false] at h |- <;> cases h
      rfl
    . try dsimp only
      cases hb : Nat.beq (T t).kind 2 <;> simp only [hb, cond_true, cond_false] at h |- <;> cases h
      rfl
    . rename_i p hn1 hn2
      cases hb : Nat.beq (T t).kind 2 <;> simp only [hb, cond_true, cond_false] at h |-
      . cases h
      . split at h
        . rename_i l hl; rw [Ahy S hl]; cases h; rfl
        . cases h
theorem Aht {t : TypeId} {x : Operand} (h : Gm T ok F ⟨[], []⟩ t x = some (C, r, S1)) : Gm T ok F S t x = some (C, r, S) := by
  unfold Gm at h |-
  generalize evP F x = a at h |-
  cases hk : (ok t && !(T t).isRow) <;> simp only [hk, cond_true, cond_false] at h |-
  . cases h
  . split at h
    . simp at h
    . cases h; rfl
    . cases h
theorem Ac1 {t : TypeId} {x : Operand} (h : Ez T ok F ⟨[], []⟩ t x = some (C, r, S1)) : Ez T ok F S t x = some (C, r, S) := by
  unfold Ez at h |-
  generalize evP F x = a at h |-
  cases hk : (ok t && (T t).isRow) <;> simp only [hk, cond_true, cond_false] at h |-
  . cases h
  . split at h
    . simp at h
    . rename_i l
      try dsimp only
      cases hb : Nat.ble (T t).size l.length <;> simp only [hb, cond_true, cond_false] at h |- <;> cases h
      rfl
    . cases h
theorem Ahp {c : Call} (h : Le T ok F ⟨[], []⟩ c = some (C, r, S1)) : Le T ok F S c = some (C, r, S) := by
  unfold Le at h |-
  split at h
  . exact stLen_up S h
  . (try dsimp only at h |-)
    split at h
    . rename_i k a k' b h1 h2
      (try rw [h1, h2])
      try dsimp only
      cases hk : (k == k') <;> simp only [hk, cond_true, cond_false] at h |- <;> cases h
      rfl
    . cases h
  . (try dsimp only at h |-)
    split at h
    . rename_i k a k' b h1 h2
      (try rw [h1, h2])
      try dsimp only
      cases hk : (k == k') <;> simp only [hk, cond_true, cond_false] at h |- <;> cases h
      rfl
    . cases h
  . cases h
theorem stepA_up {op : Op} (h : Hd T ok F ⟨[], []⟩ op = some (C, r, S1)) : Hd T ok F S op = some (C, r, S) := by
  unfold Hd at h |-
  split at h
  . exact Sz S h
  . exact Sz S h
  . (try dsimp only at h |-)
    split at h
    . rename_i t h1
      (try rw [h1])
      cases t <;> exact Sz S h
    . cases h
  . exact Aht S h
  . (try dsimp only at h |-)
    generalize evP F _ = a at h |-
    split at h <;> first | (cases h; rfl) | cases h
  . exact stBin_up S h
  . exact stUn_up S h
  . exact Ahr S h
  . exact Ac3 S h
  . exact Acz S h
  . exact Yr S h
  . exact S5 S h
  . (try dsimp only at h |-)
    split at h
    . rename_i l h1
      (try rw [h1])
      try dsimp only
      split at h
      . rename_i p h2
        (try rw [h2]); exact Sz S h
      . cases h
    . cases h
  . exact Ahp S h
  . cases h
theorem Acx {t : TypeId} {ps : Array (Nat × Operand)} (h : Iz T ok F ⟨[], []⟩ t ps = some (C, r, S1)) : Iz T ok F S t ps = some (C, r, S) := by
  unfold Iz at h |-
  generalize (ok t && (Nat.beq (T t).kind 3 || Nat.beq (T t).kind 4) && (T t).zero.all (·.oneCell') && (Dx F ps).all (fun x => Ce x.2.parts)) = b at h |-
  cases b
  . cases h
  . simp only [cond_true] at h |-
    split at h
    . rename_i out h1; (try rw [h1]); cases h; rfl
    . cases h
theorem O9 {t : TypeId} {len : Nat} {ps : Array (Nat × Operand)} (h : Cy T ok F ⟨[], []⟩ t len ps = some (C, r, S1)) : Cy T ok F S t len ps = some (C, r, S) := by
  unfold Cy at h |-
  generalize (ok t && Nat.beq (T t).kind 2 && Nat.ble (len * (T t).ek) 16777216 && Nat.ble len 9223372036854775807 && (Dx F ps).all (fun x => Ce x.2.parts)) = b at h |-
  cases b
  . cases h
  . simp only [cond_true] at h |-
    split at h
    . rename_i out h1
      (try rw [h1])
      try dsimp only
      split at h
      . rename_i ds h2; rw [Ahx S h2]; cases h; rfl
      . cases h
    . cases h
theorem stepB_up {op : Op} (ht : Wm op = false) (h : He T ok F ⟨[], []⟩ op = some (C, r, S1)) : He T ok F S op = some (C, r, S) := by
  unfold He at h |-
  split at h
  . cases ht
  . cases ht
  . exact Acx S h
  . exact O9 S h
  . exact Ac1 S h
  . cases ht
  . cases h; rfl
  . rename_i t x
    (try dsimp only at h |-)
    generalize evP F x = a at h |-
    cases hb : (ok t && Nat.beq (T t).kind 4) <;> simp only [hb, cond_true, cond_false] at h |-
    . cases h
    . split at h
      . rename_i l
        try dsimp only
        split at h
        . rename_i vs h1; (try rw [h1]); cases h; rfl
        . cases h
      . cases h
  . split at h
    . cases ht
    . cases h
  . cases h
end
theorem Aa0 (S : PS) {F : Nat -> PV} {op : Op} {r : PV} (h : S7 F ⟨[], []⟩ op = some r) : S7 F S op = some r := by
  unfold S7 at h |-
  split at h
  . rename_i t x y
    (try dsimp only at h |-)
    cases hb : (Ba t && Nat.beq (tyi t).kind 2) <;> simp only [hb, cond_true, cond_false] at h |-
    . cases h
    . split at h
      . rename_i l k j h1 h2
        rw [Ahy S h1, h2]
        exact h
      . cases h
  . exact h
  . exact h
  . exact h
  . exact h
  . exact h
  . cases h
def freeE (F : Nat -> PV) (op : Op) : Option PV := bif Wm op then none else
  match Hd tyi Ba F ⟨[], []⟩ op with
  | some (_, r, _) => bif E5 tyi F ⟨[], []⟩ op then some r else S7 F ⟨[], []⟩ op
  | none => match He tyi Ba F ⟨[], []⟩ op with
    | some (_, r, _) => bif E5 tyi F ⟨[], []⟩ op then some r else none
    | none => S7 F ⟨[], []⟩ op
theorem freeE_ok {o : Oper} {F : Nat -> PV} {r : PV} (h : freeE F o.op = some r) (S : PS) : OpS Tryz.prog o F S r S := by
  unfold freeE at h
  cases ht : Wm o.op with
  | true => rw [ht] at h; cases h
  | false =>
    rw [ht] at h
    simp only [cond_false] at h
    split at h
    . rename_i C r1 S1 h1
      cases hc : E5 tyi F ⟨[], []⟩ o.op with
      | true => rw [hc] at h; cases h; exact Hz Fj (stepA_up S h1) (Ad9 h1 hc)
      | false => rw [hc] at h; exact Nr (Aa0 S h)
    . split at h
      . rename_i C r1 S1 h1
        cases hc : E5 tyi F ⟨[], []⟩ o.op with
        | true => rw [hc] at h; cases h; exact Fv Fj (stepB_up S ht h1) (Aea h1 hc)
        | false => rw [hc] at h; cases h
      . exact Nr (Aa0 S h)
end
end Go.Proofs.YtjagmmmcibdibaaGreatDoor
