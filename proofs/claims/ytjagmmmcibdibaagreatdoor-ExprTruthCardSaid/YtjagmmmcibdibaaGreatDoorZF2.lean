/- A part of the proofs of some statements of this chapter: texts of these claims, merged. -/
import Derived.Below
import Derived.WalkKit
import Derived.BigQuiet
import Derived.Lib.Hide
import Derived.ControlIn
import Derived.OwnWalkIn
import Derived.Lib.ItoaNum
import Derived.OrdersIn
import Derived.TacticsIn
import Derived.Deep.MidRow
import Derived.OpenShut
import Derived.Lib.SmallJoins
import Derived.Laws.Tables
import Derived.Laws.OwnMore
import Derived.Orders
import Derived.Test.YtjagmmmcibdibaaGreatDoorProg
import Derived.Shelf.Abstract
import Derived.Test.YtjagmmmcibdibaaGreatDoorRows
import Derived.Carry
import Derived.Lib.LaidU8
import Derived.Lib.LaidTab
import Derived.Lay
import Derived.MakeChecks
import Derived.Laws.Strings
import Derived.WalkSpells
import Derived.WalkLawsBesides
import Derived.Laws.EntriesVeiled
import Derived.Deep.RegionHeld3
import Derived.Deep.QuietTactic
import Derived.Lib.Bytealg
import Derived.Shelf.Strings.Builder1
import Derived.Shelf.Small.Strs
import Derived.Shelf.Small.Wraps
import Derived.Shelf.Strings.BuilderF
import Derived.Shelf.Strings.BuilderK
import Derived.Shelf.Strconv.Atoi
import Derived.Shelf.Strconv.Itoa0
import Derived.Shelf.Strconv.Itoa1
import Derived.Shelf.LaysM
import Derived.Shelf.Strconv.Itoa2
import Derived.Shelf.Strconv.Itoa3
import Derived.Shelf.Strconv.AtoiErrFast
import Derived.Shelf.Strconv.ParseIntEmpty
import Derived.Shelf.Strconv.AtoiFail
import Derived.Shelf.Strconv.Clone
import Derived.Shelf.Strconv.SyntaxError
import Derived.Shelf.LaysC
import Derived.Shelf.Strconv.ToError
import Derived.Shelf.Strconv.AtoiErr
import Derived.Shelf.Strconv.ErrVar
import Derived.Shelf.Strconv.Lower
import Derived.Shelf.Strconv.ParseUint10
import Derived.Shelf.Strconv.ParseUint10Empty
import Derived.Shelf.Strconv.ParseUint10Any
import Derived.Shelf.Strconv.ParseInt10
import Derived.Shelf.Strconv.AtoiLong
import Derived.Shelf.Strconv.AtoiInnerAll
import Derived.Shelf.Strconv.RangeError
import Derived.Shelf.Strconv.ToErrorRange
import Derived.Shelf.Strconv.AtoiAll
import Derived.Shelf.Strconv.ErrVarAll
import Derived.Shelf.Strconv.ParseUintEmpty
import Derived.Shelf.Strconv.ParseUint10b64
import Derived.Shelf.Strconv.ParseUint10b32
import Derived.Shelf.Strconv.ParseUint10b16
import Derived.Shelf.Strconv.ParseUint10b8
import Derived.Shelf.Strconv.ParseUint10At
import Derived.Ground.MpProg
import Derived.Shelf.Pu.ParseUintPublic10
import Derived.Shelf.Pu.ErrVarParseUint
import Derived.Shelf.Strings.Search1
import Derived.Shelf.Strings.Search2
import Derived.Shelf.Strings.Cut
import Derived.Shelf.Strings.Shaped
import Derived.Shelf.Strings.Prefix
import Derived.Shelf.Strings.BuilderCap
import Derived.Shelf.Slices.Turned
import Derived.Ground.Names2Prog
import Derived.Shelf.Slices.SearchI
import Derived.Deep.DeepCutAuto
import Derived.Lib.IndexBytes
import Derived.Deep.LoopGhost
import Derived.StillTail
import Derived.BigRegion
import Derived.Deep.CutBlock
import Derived.RangeFuncBox
import Derived.RangeFuncLeaves
import Derived.RangeFuncCalls
import Derived.TacticsInMore
import Derived.LoopNIn
import Derived.LoopIn
import Derived.RecoverIn
import Derived.RangeFuncNested
import Derived.Maps.AppendAt
import Derived.Shelf.RegionOpen
import Derived.Test.YtjagmmmcibdibaaGreatDoorZF1
set_option linter.unusedVariables false
set_option linter.unusedSimpArgs false
set_option linter.unusedSectionVars false
set_option linter.all false
namespace Go.Proofs.YtjagmmmcibdibaaGreatDoor
open Go.RowKit
abbrev St := Option (Prop × PV × PS)
section
variable (T : Nat -> TyI) (ok : Nat -> Bool) (F : Nat -> PV) (S : PS)
def Sw (op : BinOp) (t : TypeId) (x y : Operand) : St :=
  match evP F x, evP F y with
  | .d (.v (.int k a)), .d (.v (.int k' b)) =>
    bif k == k' then
      match op with
      | .add => some (IntKind.lo k <= a + b /\ a + b <= IntKind.hi k, .d (.v (.int k (a + b))), S)
      | .sub => some (IntKind.lo k <= a - b /\ a - b <= IntKind.hi k, .d (.v (.int k (a - b))), S)
      | .mul => some (IntKind.lo k <= a * b /\ a * b <= IntKind.hi k, .d (.v (.int k (a * b))), S)
      | .quo => some (0 <= a /\ 0 < b /\ a <= IntKind.hi k, .d (.v (.int k (a / b))), S)
      | .rem => some (0 <= a /\ 0 < b, .d (.v (.int k (a % b))), S)
      | .lss => some (True, .d (.v (.bool (decide (a < b)))), S)
      | .leq => some (True, .d (.v (.bool (decide (a <= b)))), S)
      | .gtr => some (True, .d (.v (.bool (decide (b < a)))), S)
      | .geq => some (True, .d (.v (.bool (decide (b <= a)))), S)
      | .eql => some (True, .d (.v (.bool (decide (a = b)))), S)
      | .neq => some (True, .d (.v (.bool (!decide (a = b)))), S)
      | _ => none
    else none
  | .d (.v (.string a)), .d (.v (.string b)) =>
    match op with
    | .add => some (a.size + b.size <= 9223372036854775807, .d (.v (.string (a ++ b))), S)
    | .eql => some (True, .d (.v (.bool (decide (a = b)))), S)
    | .neq => some (True, .d (.v (.bool (!decide (a = b)))), S)
    | _ => none
  | .d (.v (.bool a)), .d (.v (.bool b)) =>
    bif ok t && Nat.beq (T t).kind 6 then
      match op with
      | .eql => some (True, .d (.v (.bool (decide (a = b)))), S)
      | .neq => some (True, .d (.v (.bool (!decide (a = b)))), S)
      | _ => none
    else none
  | _, _ => none
def Yp : PV -> St
  | .d c => some (True, .d c, S)
  | .ptr id off => some (True, .ptr id off, S)
  | .agg l => some (True, .agg l, S)
  | .tup l => some (True, .tup l, S)
  | .ep l => some (True, .ep l, S)
  | .hd t n => some (True, .hd t n, S)
  | .bsl k id off n cap => some (True, .bsl k id off n cap, S)
  | .fn f l => some (True, .fn f l, S)
  | .un => some (True, .un, S)
  | .any => some (True, .any, S)
def Gm (t : TypeId) (x : Operand) : St :=
  bif ok t && !(T t).isRow then
    match evP F x with
    | .ptr id off => match S.boxes[id]? with
      | some c => match c[off]? with
        | some p => Yp S p
        | none => none
      | none => none
    | .ep (c :: _) => some (True, .d c, S)
    | _ => none
  else none
def Ez (t : TypeId) (x : Operand) : St :=
  bif ok t && (T t).isRow then
    match evP F x with
    | .ptr id off => match S.boxes[id]? with
      | some c => bif Nat.ble (off + (T t).size) c.length then some (True, .agg ((c.drop off).take (T t).size), S) else none
      | none => none
    | .ep l => bif Nat.ble (T t).size l.length then some (True, .agg ((l.take (T t).size).map .d), S) else none
    | _ => none
  else none
def V1 : PV -> Option (List PV)
  | .agg l => some l
  | .d c => some [.d c]
  | .ptr id off => some [.ptr id off]
  | .ep l => some [.ep l]
  | .hd t n => some [.hd t n]
  | .bsl k id off n cap => some [.bsl k id off n cap]
  | .fn f l => some [.fn f l]
  | _ => none
def Pa (t : TypeId) (x y : Operand) : St :=
  bif ok t then
    match evP F x with
    | .ptr id off => match S.boxes[id]? with
      | some c => match V1 (evP F y) with
        | some l => bif Ce l && Nat.beq l.length (T t).size && Nat.ble (off + (T t).size) c.length then some (True, .un, S.setBox id (putAt c off l)) else none
        | none => none
      | none => none
    | _ => none
  else none
def Hw (s : TypeId) (x : Operand) (f : Nat) : St :=
  bif ok s && Nat.beq (T s).kind 4 then
    match (T s).offs[f]? with
    | some (off, _ + 1) => match evP F x with
      | .ptr id p => some (True, .ptr id (p + off), S)
      | .ep l => bif Nat.ble off l.length then some (True, .ep (l.drop off), S) else none
      | _ => none
    | _ => none
  else none
def Fu (t : TypeId) (x y : Operand) : St :=
  bif ok t then
    match evP F x, evP F y with
    | .ptr id off, .d (.v (.int _ j)) => bif Nat.beq (T t).kind 3 then some (0 <= j /\ j < (T t).len, .ptr id (off + j.toNat * (T t).ek), S) else none
    | .bsl _ id off n _, .d (.v (.int _ j)) => bif Nat.beq (T t).kind 2 then some (0 <= j /\ j < n, .ptr id (off + j.toNat * (T t).ek), S) else none
    | _, _ => none
  else none
def Do (t : TypeId) (x y : Operand) : St :=
  bif ok t && Nat.beq (T t).kind 1 then
    match evP F x, evP F y with
    | .d (.v (.string s)), .d (.v (.int _ j)) => some (0 <= j /\ j < s.size, .d (.v (.int .u8 (s.data.toList.getD j.toNat 0).toNat)), S)
    | _, _ => none
  else none
def Hy (t : TypeId) (x : Operand) (lo hi : Option Operand) : St :=
  bif ok t then
    match evP F x with
    | .d (.v (.string s)) => bif Nat.beq (T t).kind 1 then
        match loN F lo, hiN F s.size hi with
        | some j, some h => some (0 <= j /\ j <= h /\ h <= s.size, .d (.v (.string (s.extract j.toNat h.toNat))), S)
        | _, _ => none
      else none
    | p => bif Nat.beq (T t).kind 2 then
        match S.toS (T t).ek p with
        | some l => match loN F lo, hiN F l.length hi with
          | some j, some h => some (0 <= j /\ j <= h /\ h <= l.length, .d (.sl (T t).ek ((l.take h.toNat).drop j.toNat)), S)
          | _, _ => none
        | none => none
      else none
  else none
def S6 (t : TypeId) (x : Operand) : St :=
  bif ok t then
    match evP F x with
    | .d (.v (.string s)) => bif Nat.beq (T t).kind 1 then some (True, .d (.v (.int .i64 s.size)), S) else none
    | .bsl _ _ _ n _ => bif Nat.beq (T t).kind 2 then some (True, .d (.v (.int .i64 n)), S) else none
    | p => bif Nat.beq (T t).kind 2 then
        match S.toS (T t).ek p with
        | some l => some (True, .d (.v (.int .i64 l.length)), S)
        | none => none
      else none
  else none
def Ld (t : TypeId) (x y : Operand) : St :=
  bif ok t && Nat.beq (T t).kind 2 then
    match evP F x with
    | .hd tk n => match S.toks[tk]? with
      | some K => bif Nat.beq K.ver n && Nat.beq K.k (T t).ek && Nat.beq K.e (T t).elem then
          match S.toS (T t).ek (evP F y) with
          | some news => some ((K.l.length + news.length) * (T t).eb <= 140737488355328 /\ K.l.length + news.length <= 9223372036854775807, .hd tk (n + 1), S.setTok tk ⟨n + 1, K.k, K.l ++ news, K.e⟩)
          | none => none
        else none
      | none => none
    | _ => none
  else none
def Iz (t : TypeId) (ps : Array (Nat × Operand)) : St :=
  bif ok t && (Nat.beq (T t).kind 3 || Nat.beq (T t).kind 4) && (T t).zero.all (·.oneCell') && (Dx F ps).all (fun x => Ce x.2.parts) then
    match Mz (fun i => if (T t).kind = 3 then some (i * (T t).ek, (T t).ek) else (T t).offs[i]?) ((T t).zero.map fun v => .d (.v v)) (Dx F ps) with
    | some out => some (True, .agg out, S)
    | none => none
  else none
def Cy (t : TypeId) (len : Nat) (ps : Array (Nat × Operand)) : St :=
  bif ok t && Nat.beq (T t).kind 2 && Nat.ble (len * (T t).ek) 16777216 && Nat.ble len 9223372036854775807 && (Dx F ps).all (fun x => Ce x.2.parts) then
    match Mz (fun i => some (i * (T t).ek, (T t).ek)) (Q4 (T t).ez (len * (T t).ek)) (Dx F ps) with
    | some out => match S.toDs out with
      | some ds => some (True, .d (.sl (T t).ek (Pm (T t).ek len ds)), S)
      | none => none
    | none => none
  else none
def Lf (src dst : TypeId) (x : Operand) : St :=
  bif ok src && ok dst then
    match evP F x with
    | .d (.v (.int _ a)) => bif Nat.beq (T dst).kind 5 then some (IntKind.lo (T dst).ik <= a /\ a <= IntKind.hi (T dst).ik, .d (.v (.int (T dst).ik a)), S) else none
    | .d (.v (.string s)) => bif Nat.beq (T dst).kind 1 then some (True, .d (.v (.string s)), S) else none
    | _ => none
  else none
def stUn (op : UnOp) (x : Operand) : St :=
  match op, evP F x with
  | .not, .d (.v (.bool a)) => some (True, .d (.v (.bool (!a))), S)
  | .neg, .d (.v (.int k a)) => some (IntKind.lo k <= -a /\ -a <= IntKind.hi k, .d (.v (.int k (-a))), S)
  | _, _ => none
def Le (c : Call) : St :=
  match c with
  | ⟨.builtin .len, ⟨[x]⟩, ⟨[t]⟩⟩ => S6 T ok F S t x
  | ⟨.builtin .min, ⟨[x, y]⟩, _⟩ => match evP F x, evP F y with
    | .d (.v (.int k a)), .d (.v (.int k' b)) => bif k == k' then some (True, .d (.v (.int k (if b < a then b else a))), S) else none
    | _, _ => none
  | ⟨.builtin .max, ⟨[x, y]⟩, _⟩ => match evP F x, evP F y with
    | .d (.v (.int k a)), .d (.v (.int k' b)) => bif k == k' then some (True, .d (.v (.int k (if a < b then b else a))), S) else none
    | _, _ => none
  | _ => none
def Hd : Op -> St
  | .move x | .assign x => Yp S (evP F x)
  | .pick c a b => match evP F c with
    | .d (.v (.bool t)) => match t with
      | true => Yp S (evP F a)
      | false => Yp S (evP F b)
    | _ => none
  | .load t a => Gm T ok F S t a
  | .nilCheck x => match evP F x with
    | .ptr id off => some (True, .ptr id off, S)
    | .ep l => some (True, .ep l, S)
    | .fn f l => some (True, .fn f l, S)
    | _ => none
  | .binOp op t x y _ => Sw T ok F S op t x y
  | .unOp op _ x => stUn F S op x
  | .convert src dst x => Lf T ok F S src dst x
  | .slice t x lo hi none => Hy T ok F S t x lo hi
  | .fieldAddr s x f => Hw T ok F S s x f
  | .indexAddr t x i => Fu T ok F S t x i
  | .index t x i => Do T ok F S t x i
  | .extract x i => match evP F x with
    | .tup l => match l[i]? with
      | some p => Yp S p
      | none => none
    | _ => none
  | .call c => Le T ok F S c
  | _ => none
def He : Op -> St
  | .alloc t => bif ok t && (T t).zero.all (·.oneCell') then some (True, .ptr S.boxes.length 0, S.addBox ((T t).zero.map fun v => .d (.v v))) else none
  | .box _ x => match V1 (evP F x) with
    | some l => bif Ce l then some (True, .ptr S.boxes.length 0, S.addBox l) else none
    | none => none
  | .build t ps => Iz T ok F S t ps
  | .buildSlice t len ps => Cy T ok F S t len ps
  | .load t a => Ez T ok F S t a
  | .store t a x => Pa T ok F S t a x
  | .makeFunc (.func f) ⟨[]⟩ cs => some (True, .fn f (cs.toList.map (evP F)), S)
  | .makeInterface t x => bif ok t && Nat.beq (T t).kind 4 then
      match evP F x with
      | .agg l => match Mk l with
        | some vs => some (True, .d (.v (.iface t (.agg vs.toArray))), S)
        | none => none
      | _ => none
    else none
  | .call c => match c with
    | ⟨.builtin .append, ⟨[x, y]⟩, ⟨[t, t']⟩⟩ => bif Nat.beq t t' then Ld T ok F S t x y else none
    | _ => none
  | _ => none
end
section
variable {P : Program} {T : Nat -> TyI} {ok : Nat -> Bool} {F : Nat -> PV} {S S' : PS} {o : Oper} {C : Prop} {r : PV}
theorem Rr {k k' : IntKind} (h : (k == k') = true) : k = k' := by simpa using h
theorem stBin_ok (hT : ∀ t, ok t = true -> TyI.of P t = some (T t)) {op : BinOp} {t yt : TypeId} {x y : Operand} (ho : o.op = .binOp op t x y yt) (h : Sw T ok F S op t x y = some (C, r, S')) (hC : C) : OpS P o F S r S' := by
  unfold Sw at h
  split at h
  . rename_i k a k' b hx hy
    cases hk : (k == k') with
    | false => rw [hk] at h; cases h
    | true =>
      rw [hk] at h
      obtain rfl := Rr hk
      cases op <;> simp only [cond_true] at h <;> first | cases h | skip
      . exact opb_add ho hx hy hC.1 hC.2
      . exact opb_sub ho hx hy hC.1 hC.2
      . exact opb_mul ho hx hy hC.1 hC.2
      . exact opb_quo ho hx hy hC.1 hC.2.1 hC.2.2
      . exact opb_rem ho hx hy hC.1 hC.2
      . exact opb_eql ho hx hy
      . exact opb_neq ho hx hy
      . exact opb_lss ho hx hy
      . exact opb_leq ho hx hy
      . exact opb_gtr ho hx hy
      . exact opb_geq ho hx hy
  . rename_i a b hx hy
    cases op <;> first | cases h | skip
    . exact opb_addS ho hx hy hC
    . exact opb_eqlS ho hx hy
    . exact opb_neqS ho hx hy
  . rename_i a b hx hy
    cases hk : (ok t && Nat.beq (T t).kind 6) with
    | false => rw [hk] at h; cases h
    | true =>
      rw [hk] at h
      simp only [Bool.and_eq_true] at hk
      have hk2 := Nat.eq_of_beq_eq_true hk.2
      cases op <;> simp only [cond_true] at h <;> first | cases h | skip
      . exact opb_eqlB ho (hT t hk.1) hk2 hx hy
      . exact opb_neqB ho (hT t hk.1) hk2 hx hy
  . cases h
theorem Mb {p : PV} (ho : OpS P o F S p S) (h : Yp S p = some (C, r, S')) : OpS P o F S r S' := by
  cases p <;> (simp only [Yp, Option.some.injEq, Prod.mk.injEq] at h; obtain ⟨_, rfl, rfl⟩ := h; exact ho)
theorem V2 {p : PV} {l : List PV} (h : V1 p = some l) : p.parts = l := by
  cases p <;> simp only [V1] at h <;> cases h <;> rfl
theorem Ahs (hT : ∀ t, ok t = true -> TyI.of P t = some (T t)) {t : TypeId} {x : Operand} (ho : o.op = .load t x) (h : Gm T ok F S t x = some (C, r, S')) : OpS P o F S r S' := by
  unfold Gm at h
  cases hk : (ok t && !(T t).isRow) with
  | false => rw [hk] at h; cases h
  | true =>
    rw [hk] at h
    simp only [cond_true] at h
    simp only [Bool.and_eq_true, Bool.not_eq_true'] at hk
    split at h
    . rename_i id off hx
      split at h
      . rename_i c hc
        split at h
        . rename_i p hp; exact Mb (R8 ho (hT t hk.1) hk.2 hx hc hp) h
        . cases h
      . cases h
    . rename_i hx; cases h; exact Ags ho (hT t hk.1) hk.2 hx
    . cases h
theorem Ac0 (hT : ∀ t, ok t = true -> TyI.of P t = some (T t)) {t : TypeId} {x : Operand} (ho : o.op = .load t x) (h : Ez T ok F S t x = some (C, r, S')) : OpS P o F S r S' := by
  unfold Ez at h
  cases hk : (ok t && (T t).isRow) with
  | false => rw [hk] at h; cases h
  | true =>
    rw [hk] at h
    simp only [cond_true] at h
    simp only [Bool.and_eq_true] at hk
    split at h
    . rename_i id off hx
      split at h
      . rename_i c hc
        cases hle : Nat.ble (off + (T t).size) c.length with
        | false => rw [hle] at h; cases h
        | true => rw [hle] at h; cases h; exact Vz ho (hT t hk.1) hk.2 hx hc hle
      . cases h
    . rename_i l hx
      cases hle : Nat.ble (T t).size l.length with
      | false => rw [hle] at h; cases h
      | true => rw [hle] at h; cases h; exact Acc ho (hT t hk.1) hk.2 hx hle
    . cases h
theorem Qv (hT : ∀ t, ok t = true -> TyI.of P t = some (T t)) {t : TypeId} {x y : Operand} (ho : o.op = .store t x y) (h : Pa T ok F S t x y = some (C, r, S')) : OpS P o F S r S' := by
  unfold Pa at h
  cases hk : ok t with
  | false => rw [hk] at h; cases h
  | true =>
    rw [hk] at h
    simp only [cond_true] at h
    split at h
    . rename_i id off hx
      split at h
      . rename_i c hc
        split at h
        . rename_i l hl
          have hl := V2 hl
          subst hl
          cases hb : (Ce (evP F y).parts && Nat.beq (evP F y).parts.length (T t).size && Nat.ble (off + (T t).size) c.length) with
          | false => rw [hb] at h; cases h
          | true =>
            rw [hb] at h; cases h
            simp only [Bool.and_eq_true] at hb
            exact Agt ho (hT t hk) hx hb.1.1 hc (Nat.eq_of_beq_eq_true hb.1.2) hb.2
        . cases h
      . cases h
    . cases h
theorem Acy (hT : ∀ t, ok t = true -> TyI.of P t = some (T t)) {s : TypeId} {x : Operand} {f : Nat} (ho : o.op = .fieldAddr s x f) (h : Hw T ok F S s x f = some (C, r, S')) : OpS P o F S r S' := by
  unfold Hw at h
  cases hk : (ok s && Nat.beq (T s).kind 4) with
  | false => rw [hk] at h; cases h
  | true =>
    rw [hk] at h
    simp only [cond_true] at h
    simp only [Bool.and_eq_true] at hk
    have hk2 := Nat.eq_of_beq_eq_true hk.2
    split at h
    . rename_i off sz hf
      split at h
      . rename_i id p hx; cases h; exact Agr ho (hT s hk.1) hk2 hf hx
      . rename_i l hx
        cases hle : Nat.ble off l.length with
        | false => rw [hle] at h; cases h
        | true => rw [hle] at h; cases h; exact Acb ho (hT s hk.1) hk2 hf hx hle
      . cases h
    . cases h
theorem Yq (hT : ∀ t, ok t = true -> TyI.of P t = some (T t)) {t : TypeId} {x y : Operand} (ho : o.op = .indexAddr t x y) (h : Fu T ok F S t x y = some (C, r, S')) (hC : C) : OpS P o F S r S' := by
  unfold Fu at h
  cases hk : ok t with
  | false => rw [hk] at h; cases h
  | true =>
    rw [hk] at h
    simp only [cond_true] at h
    split at h
    . rename_i id off kd j hx hy
      cases hb : Nat.beq (T t).kind 3 with
      | false => rw [hb] at h; cases h
      | true => rw [hb] at h; cases h; exact Ab4 ho (hT t hk) (Nat.eq_of_beq_eq_true hb) hx hy hC.1 hC.2
    . rename_i k' id off n cap kd j hx hy
      cases hb : Nat.beq (T t).kind 2 with
      | false => rw [hb] at h; cases h
      | true => rw [hb] at h; cases h; exact Ab5 ho (hT t hk) (Nat.eq_of_beq_eq_true hb) hx hy hC.1 hC.2
    . cases h
theorem S3 (hT : ∀ t, ok t = true -> TyI.of P t = some (T t)) {t : TypeId} {x y : Operand} (ho : o.op = .index t x y) (h : Do T ok F S t x y = some (C, r, S')) (hC : C) : OpS P o F S r S' := by
  unfold Do at h
  cases hk : (ok t && Nat.beq (T t).kind 1) with
  | false => rw [hk] at h; cases h
  | true =>
    rw [hk] at h
    simp only [cond_true] at h
    simp only [Bool.and_eq_true] at hk
    split at h
    . rename_i s kd j hx hy
      cases h
      have hlt : j.toNat < s.data.toList.length := by have := hC.2; simp; omega
      exact Vv ho (hT t hk.1) (Nat.eq_of_beq_eq_true hk.2) hx hy hC.1 (by rw [List.getD_eq_getElem?_getD, List.getElem?_eq_getElem hlt]; rfl)
    . cases h
theorem Ac2 (hT : ∀ t, ok t = true -> TyI.of P t = some (T t)) {t : TypeId} {x : Operand} {lo hi : Option Operand} (ho : o.op = .slice t x lo hi none) (h : Hy T ok F S t x lo hi = some (C, r, S')) (hC : C) : OpS P o F S r S' := by
  unfold Hy at h
  cases hk : ok t with
  | false => rw [hk] at h; cases h
  | true =>
    rw [hk] at h
    simp only [cond_true] at h
    split at h
    . rename_i s hx
      cases hb : Nat.beq (T t).kind 1 with
      | false => rw [hb] at h; cases h
      | true =>
        rw [hb] at h; simp only [cond_true] at h
        split at h
        . rename_i j h' hlo hhi
          cases h
          exact Vy ho (hT t hk) (Nat.eq_of_beq_eq_true hb) hx hlo hhi hC.1 hC.2.1 hC.2.2
        . cases h
    . cases hb : Nat.beq (T t).kind 2 with
      | false => rw [hb] at h; cases h
      | true =>
        rw [hb] at h; simp only [cond_true] at h
        split at h
        . rename_i l hx
          split at h
          . rename_i j h' hlo hhi
            cases h
            exact Aca ho (hT t hk) (Nat.eq_of_beq_eq_true hb) hx hlo hhi hC.1 hC.2.1 hC.2.2
          . cases h
        . cases h
theorem stLen_ok (hT : ∀ t, ok t = true -> TyI.of P t = some (T t)) {t : TypeId} {x : Operand} (ho : o.op = .call { callee := .builtin .len, args := #[x], argTypes := #[t] }) (h : S6 T ok F S t x = some (C, r, S')) : OpS P o F S r S' := by
  unfold S6 at h
  cases hk : ok t with
  | false => rw [hk] at h; cases h
  | true =>
    rw [hk] at h
    simp only [cond_true] at h
    split at h
    . rename_i s hx
      cases hb : Nat.beq (T t).kind 1 with
      | false => rw [hb] at h; cases h
      | true => rw [hb] at h; cases h; exact Ab7 ho (hT t hk) (Nat.eq_of_beq_eq_true hb) hx
    . rename_i k id off n cap hx
      cases hb : Nat.beq (T t).kind 2 with
      | false => rw [hb] at h; cases h
      | true => rw [hb] at h; cases h; exact Ab6 ho (hT t hk) (Nat.eq_of_beq_eq_true hb) hx
    . cases hb : Nat.beq (T t).kind 2 with
      | false => rw [hb] at h; cases h
      | true =>
        rw [hb] at h; simp only [cond_true] at h
        split at h
        . rename_i l hx; cases h; exact ops_lenS ho (hT t hk) (Nat.eq_of_beq_eq_true hb) hx
        . cases h
theorem Yo (hT : ∀ t, ok t = true -> TyI.of P t = some (T t)) {t : TypeId} {x y : Operand} (ho : o.op = .call { callee := .builtin .append, args := #[x, y], argTypes := #[t, t] }) (h : Ld T ok F S t x y = some (C, r, S')) (hC : C) : OpS P o F S r S' := by
  unfold Ld at h
  cases hk : (ok t && Nat.beq (T t).kind 2) with
  | false => rw [hk] at h; cases h
  | true =>
    rw [hk] at h
    simp only [cond_true] at h
    simp only [Bool.and_eq_true] at hk
    split at h
    . rename_i tk n hx
      split at h
      . rename_i Kt hK
        cases hb : (Nat.beq Kt.ver n && Nat.beq Kt.k (T t).ek && Nat.beq Kt.e (T t).elem) with
        | false => rw [hb] at h; cases h
        | true =>
          rw [hb] at h; simp only [cond_true] at h
          simp only [Bool.and_eq_true] at hb
          have e1 := Nat.eq_of_beq_eq_true hb.1.1
          subst e1
          split at h
          . rename_i news hy
            cases h
            exact J6 ho (hT t hk.1) (Nat.eq_of_beq_eq_true hk.2) hx hK (Nat.eq_of_beq_eq_true hb.1.2) (Nat.eq_of_beq_eq_true hb.2) hy hC.1 hC.2
          . cases h
      . cases h
    . cases h
theorem Acw (hT : ∀ t, ok t = true -> TyI.of P t = some (T t)) {t : TypeId} {ps : Array (Nat × Operand)} (ho : o.op = .build t ps) (h : Iz T ok F S t ps = some (C, r, S')) : OpS P o F S r S' := by
  unfold Iz at h
  cases hk : (ok t && (Nat.beq (T t).kind 3 || Nat.beq (T t).kind 4) && (T t).zero.all (·.oneCell') && (Dx F ps).all (fun x => Ce x.2.parts)) with
  | false => rw [hk] at h; cases h
  | true =>
    rw [hk] at h
    simp only [cond_true] at h
    simp only [Bool.and_eq_true, Bool.or_eq_true] at hk
    split at h
    . rename_i out hf
      cases h
      exact Agl ho (hT t hk.1.1.1) (hk.1.1.2.imp Nat.eq_of_beq_eq_true Nat.eq_of_beq_eq_true) hk.1.2 hk.2 hf
    . cases h
theorem O8 (hT : ∀ t, ok t = true -> TyI.of P t = some (T t)) {t : TypeId} {len : Nat} {ps : Array (Nat × Operand)} (ho : o.op = .buildSlice t len ps) (h : Cy T ok F S t len ps = some (C, r, S')) : OpS P o F S r S' := by
  unfold Cy at h
  cases hk : (ok t && Nat.beq (T t).kind 2 && Nat.ble (len * (T t).ek) 16777216 && Nat.ble len 9223372036854775807 && (Dx F ps).all (fun x => Ce x.2.parts)) with
  | false => rw [hk] at h; cases h
  | true =>
    rw [hk] at h
    simp only [cond_true] at h
    simp only [Bool.and_eq_true] at hk
    split at h
    . rename_i out hf
      split at h
      . rename_i ds hd
        cases h
        exact Pr ho (hT t hk.1.1.1.1) (Nat.eq_of_beq_eq_true hk.1.1.1.2) (Nat.le_of_ble_eq_true hk.1.1.2) hk.2 hf hd (Nat.le_of_ble_eq_true hk.1.2)
      . cases h
    . cases h
theorem Ahq (hT : ∀ t, ok t = true -> TyI.of P t = some (T t)) {src dst : TypeId} {x : Operand} (ho : o.op = .convert src dst x) (h : Lf T ok F S src dst x = some (C, r, S')) (hC : C) : OpS P o F S r S' := by
  unfold Lf at h
  cases hk : (ok src && ok dst) with
  | false => rw [hk] at h; cases h
  | true =>
    rw [hk] at h
    simp only [cond_true] at h
    simp only [Bool.and_eq_true] at hk
    split at h
    . rename_i k a hx
      cases hb : Nat.beq (T dst).kind 5 with
      | false => rw [hb] at h; cases h
      | true => rw [hb] at h; cases h; exact opc_int ho (hT src hk.1) (hT dst hk.2) (Nat.eq_of_beq_eq_true hb) hx hC.1 hC.2
    . rename_i s hx
      cases hb : Nat.beq (T dst).kind 1 with
      | false => rw [hb] at h; cases h
      | true => rw [hb] at h; cases h; exact opc_str ho (hT src hk.1) (hT dst hk.2) (Nat.eq_of_beq_eq_true hb) hx
    . cases h
theorem stUn_ok {op : UnOp} {t : TypeId} {x : Operand} (ho : o.op = .unOp op t x) (h : stUn F S op x = some (C, r, S')) (hC : C) : OpS P o F S r S' := by
  unfold stUn at h
  split at h
  . rename_i a hx; cases h; exact opu_not ho hx
  . rename_i k a hx; cases h; exact opu_neg ho hx hC.1 hC.2
  . cases h
theorem Aho (hT : ∀ t, ok t = true -> TyI.of P t = some (T t)) {c : Call} (ho : o.op = .call c) (h : Le T ok F S c = some (C, r, S')) : OpS P o F S r S' := by
  unfold Le at h
  split at h
  . exact stLen_ok hT ho h
  . split at h
    . rename_i k a k' b hx hy
      cases hk : (k == k') with
      | false => rw [hk] at h; cases h
      | true => rw [hk] at h; obtain rfl := Rr hk; cases h; exact op_min ho hx hy
    . cases h
  . split at h
    . rename_i k a k' b hx hy
      cases hk : (k == k') with
      | false => rw [hk] at h; cases h
      | true => rw [hk] at h; obtain rfl := Rr hk; cases h; exact op_max ho hx hy
    . cases h
  . cases h
theorem Hz (hT : ∀ t, ok t = true -> TyI.of P t = some (T t)) (h : Hd T ok F S o.op = some (C, r, S')) (hC : C) : OpS P o F S r S' := by
  generalize ho : o.op = p at h
  unfold Hd at h
  split at h
  . exact Mb (ops_move ho) h
  . exact Mb (Ab3 ho) h
  . split at h
    . rename_i t hc
      have := ops_pick (P := P) (S := S) ho hc
      cases t
      . exact Mb (by simpa using this) h
      . exact Mb (by simpa using this) h
    . cases h
  . exact Ahs hT ho h
  . split at h
    . rename_i hx; cases h; exact J5 ho hx rfl
    . rename_i hx; cases h; exact J5 ho hx rfl
    . rename_i hx; cases h; exact J5 ho hx rfl
    . cases h
  . exact stBin_ok hT ho h hC
  . exact stUn_ok ho h hC
  . exact Ahq hT ho h hC
  . exact Ac2 hT ho h hC
  . exact Acy hT ho h
  . exact Yq hT ho h hC
  . exact S3 hT ho h hC
  . split at h
    . rename_i l hx
      split at h
      . rename_i p hp; exact Mb (X9 ho hx hp) h
      . cases h
    . cases h
  . exact Aho hT ho h
  . cases h
theorem Fv (hT : ∀ t, ok t = true -> TyI.of P t = some (T t)) (h : He T ok F S o.op = some (C, r, S')) (hC : C) : OpS P o F S r S' := by
  generalize ho : o.op = p at h
  unfold He at h
  split at h
  . rename_i t
    cases hk : (ok t && (T t).zero.all (·.oneCell')) with
    | false => rw [hk] at h; cases h
    | true =>
      rw [hk] at h; cases h
      simp only [Bool.and_eq_true] at hk
      exact Agq ho (hT t hk.1) hk.2
  . rename_i t x
    split at h
    . rename_i l hl
      have hl := V2 hl
      subst hl
      cases hk : Ce (evP F x).parts with
      | false => rw [hk] at h; cases h
      | true => rw [hk] at h; cases h; exact ops_box ho rfl hk
    . cases h
  . exact Acw hT ho h
  . exact O8 hT ho h
  . exact Ac0 hT ho h
  . exact Qv hT ho h
  . cases h; exact X6 ho
  . rename_i t x
    cases hk : (ok t && Nat.beq (T t).kind 4) with
    | false => rw [hk] at h; cases h
    | true =>
      rw [hk] at h
      simp only [cond_true] at h
      simp only [Bool.and_eq_true] at hk
      split at h
      . rename_i l hx
        split at h
        . rename_i vs hv; cases h; exact op_iface ho (hT t hk.1) (Nat.eq_of_beq_eq_true hk.2) hx hv
        . cases h
      . cases h
  . split at h
    . rename_i x y t t'
      cases hb : Nat.beq t t' with
      | false => rw [hb] at h; cases h
      | true =>
        rw [hb] at h
        obtain rfl := Nat.eq_of_beq_eq_true hb
        exact Yo hT ho h hC
    . cases h
  . cases h
end
end Go.Proofs.YtjagmmmcibdibaaGreatDoor
namespace Go.Proofs.YtjagmmmcibdibaaGreatDoor
open Go.RowKit
def tyNone : TyI := ⟨0, 0, [], [], 0, 0, 0, [], 0, .i64⟩
def tyTab : List TyI := [
  ⟨0, 1, [.tuple #[]], [], 0, 0, 0, [], 0, .i64⟩,
  ⟨0, 1, [.nilFunc], [], 0, 0, 0, [], 0, .i64⟩,
  ⟨5, 1, [.int .i64 0], [], 0, 0, 0, [], 0, .i64⟩,
  ⟨5, 1, [.int .i64 0], [], 0, 0, 0, [], 0, .i64⟩,
  ⟨6, 1, [.bool false], [], 0, 0, 0, [], 0, .i64⟩,
  ⟨5, 1, [.int .u8 0], [], 0, 0, 0, [], 0, .u8⟩,
  ⟨5, 1, [.int .u8 0], [], 0, 0, 0, [], 0, .u8⟩,
  ⟨4, 4, [.int .i64 0, .int .i64 0, .bool false, .int .u8 0], [(0, 1), (1, 1), (2, 1), (3, 1)], 0, 0, 0, [], 0, .i64⟩,
  ⟨4, 4, [.int .i64 0, .int .i64 0, .bool false, .int .u8 0], [(0, 1), (1, 1), (2, 1), (3, 1)], 0, 0, 0, [], 0, .i64⟩,
  ⟨1, 1, [.string ⟨#[]⟩], [], 0, 0, 0, [], 0, .i64⟩,
  ⟨1, 1, [.string ⟨#[]⟩], [], 0, 0, 0, [], 0, .i64⟩,
  ⟨1, 1, [.string ⟨#[]⟩], [], 0, 0, 0, [], 0, .i64⟩,
  ⟨5, 1, [.int .u64 0], [], 0, 0, 0, [], 0, .u64⟩,
  ⟨4, 2, [.string ⟨#[]⟩, .int .u64 0], [(0, 1), (1, 1)], 0, 0, 0, [], 0, .i64⟩,
  ⟨4, 2, [.string ⟨#[]⟩, .int .u64 0], [(0, 1), (1, 1)], 0, 0, 0, [], 0, .i64⟩,
  ⟨0, 1, [.pointer none], [], 0, 0, 0, [], 0, .i64⟩,
  ⟨0, 1, [.pointer none], [], 0, 0, 0, [], 0, .i64⟩,
  ⟨0, 1, [.pointer none], [], 0, 0, 0, [], 0, .i64⟩,
  ⟨4, 1, [.pointer none], [(0, 1)], 0, 0, 0, [], 0, .i64⟩,
  ⟨4, 1, [.pointer none], [(0, 1)], 0, 0, 0, [], 0, .i64⟩,
  ⟨0, 1, [.nilIface], [], 0, 0, 0, [], 0, .i64⟩,
  ⟨5, 1, [.int .i32 0], [], 0, 0, 0, [], 0, .i32⟩,
  ⟨2, 1, [.slice none 0 0], [], 24, 4, 56, [.int .i64 0, .int .i64 0, .string ⟨#[]⟩, .slice none 0 0], 0, .i64⟩,
  ⟨4, 4, [.int .i64 0, .int .i64 0, .string ⟨#[]⟩, .slice none 0 0], [(0, 1), (1, 1), (2, 1), (3, 1)], 0, 0, 0, [], 0, .i64⟩,
  ⟨4, 4, [.int .i64 0, .int .i64 0, .string ⟨#[]⟩, .slice none 0 0], [(0, 1), (1, 1), (2, 1), (3, 1)], 0, 0, 0, [], 0, .i64⟩,
  ⟨2, 1, [.slice none 0 0], [], 5, 1, 1, [.int .u8 0], 0, .i64⟩,
  ⟨4, 8, [.int .u8 0, .int .u8 0, .int .i64 0, .string ⟨#[]⟩, .int .i64 0, .int .i64 0, .string ⟨#[]⟩, .slice none 0 0], [(0, 1), (1, 1), (2, 1), (3, 1), (4, 4)], 0, 0, 0, [], 0, .i64⟩,
  ⟨4, 8, [.int .u8 0, .int .u8 0, .int .i64 0, .string ⟨#[]⟩, .int .i64 0, .int .i64 0, .string ⟨#[]⟩, .slice none 0 0], [(0, 1), (1, 1), (2, 1), (3, 1), (4, 4)], 0, 0, 0, [], 0, .i64⟩,
  ⟨2, 1, [.slice none 0 0], [], 9, 1, 16, [.string ⟨#[]⟩], 0, .i64⟩,
  ⟨2, 1, [.slice none 0 0], [], 3, 1, 8, [.int .i64 0], 0, .i64⟩,
  ⟨5, 1, [.int .i16 0], [], 0, 0, 0, [], 0, .i16⟩,
  ⟨3, 3, [.int .i16 0, .int .i16 0, .int .i16 0], [], 30, 1, 2, [], 3, .i64⟩,
  ⟨4, 5, [.slice none 0 0, .slice none 0 0, .int .i16 0, .int .i16 0, .int .i16 0], [(0, 1), (1, 1), (2, 3)], 0, 0, 0, [], 0, .i64⟩,
  ⟨4, 5, [.slice none 0 0, .slice none 0 0, .int .i16 0, .int .i16 0, .int .i16 0], [(0, 1), (1, 1), (2, 3)], 0, 0, 0, [], 0, .i64⟩,
  ⟨0, 1, [.nilFunc], [], 0, 0, 0, [], 0, .i64⟩,
  ⟨0, 1, [.nilFunc], [], 0, 0, 0, [], 0, .i64⟩,
  ⟨3, 24, [.int .i64 0, .int .i64 0, .string ⟨#[]⟩, .slice none 0 0, .int .i64 0, .int .i64 0, .string ⟨#[]⟩, .slice none 0 0, .int .i64 0, .int .i64 0, .string ⟨#[]⟩, .slice none 0 0, .int .i64 0, .int .i64 0, .string ⟨#[]⟩, .slice none 0 0, .int .i64 0, .int .i64 0, .string ⟨#[]⟩, .slice none 0 0, .int .i64 0, .int .i64 0, .string ⟨#[]⟩, .slice none 0 0], [], 24, 4, 56, [], 6, .i64⟩,
  ⟨0, 1, [.nilFunc], [], 0, 0, 0, [], 0, .i64⟩,
  ⟨4, 2, [.slice none 0 0, .slice none 0 0], [(0, 1), (1, 1)], 0, 0, 0, [], 0, .i64⟩,
  ⟨3, 8, [.slice none 0 0, .slice none 0 0, .slice none 0 0, .slice none 0 0, .slice none 0 0, .slice none 0 0, .slice none 0 0, .slice none 0 0], [], 38, 2, 48, [], 4, .i64⟩,
  ⟨1, 1, [.string ⟨#[]⟩], [], 0, 0, 0, [], 0, .i64⟩,
  ⟨4, 3, [.int .i64 0, .string ⟨#[]⟩, .bool false], [(0, 1), (1, 1), (2, 1)], 0, 0, 0, [], 0, .i64⟩,
  ⟨4, 3, [.int .i64 0, .string ⟨#[]⟩, .bool false], [(0, 1), (1, 1), (2, 1)], 0, 0, 0, [], 0, .i64⟩,
  ⟨5, 1, [.int .i64 0], [], 0, 0, 0, [], 0, .i64⟩,
  ⟨0, 1, [.tuple { toList := [.agg { toList := [.int .i64 0, .string ⟨#[]⟩, .bool false] }, .int .i64 0] }], [], 0, 0, 0, [], 0, .i64⟩,
  ⟨0, 1, [.nilFunc], [], 0, 0, 0, [], 0, .i64⟩,
  ⟨0, 1, [.nilFunc], [], 0, 0, 0, [], 0, .i64⟩,
  ⟨0, 1, [.nilFunc], [], 0, 0, 0, [], 0, .i64⟩,
  ⟨0, 1, [.nilFunc], [], 0, 0, 0, [], 0, .i64⟩,
  ⟨0, 1, [.nilFunc], [], 0, 0, 0, [], 0, .i64⟩,
  ⟨0, 1, [.nilFunc], [], 0, 0, 0, [], 0, .i64⟩,
  ⟨0, 1, [.nilFunc], [], 0, 0, 0, [], 0, .i64⟩,
  ⟨0, 1, [.nilFunc], [], 0, 0, 0, [], 0, .i64⟩,
  ⟨0, 1, [.tuple { toList := [.slice none 0 0, .int .i64 0] }], [], 0, 0, 0, [], 0, .i64⟩,
  ⟨0, 1, [.nilFunc], [], 0, 0, 0, [], 0, .i64⟩,
  ⟨0, 1, [.tuple { toList := [.int .i64 0, .int .i64 0] }], [], 0, 0, 0, [], 0, .i64⟩,
  ⟨0, 1, [.nilFunc], [], 0, 0, 0, [], 0, .i64⟩,
  ⟨0, 1, [.nilFunc], [], 0, 0, 0, [], 0, .i64⟩,
  ⟨0, 1, [.tuple { toList := [.string ⟨#[]⟩, .int .i64 0] }], [], 0, 0, 0, [], 0, .i64⟩,
  ⟨0, 1, [.nilFunc], [], 0, 0, 0, [], 0, .i64⟩,
  ⟨0, 1, [.nilFunc], [], 0, 0, 0, [], 0, .i64⟩,
  ⟨3, 6, [.bool false, .bool false, .bool false, .bool false, .bool false, .bool false], [], 4, 1, 1, [], 6, .i64⟩,
  ⟨0, 1, [.nilFunc], [], 0, 0, 0, [], 0, .i64⟩,
  ⟨0, 1, [.tuple { toList := [.agg { toList := [.int .i64 0, .int .i64 0, .string ⟨#[]⟩, .slice none 0 0] }, .int .i64 0] }], [], 0, 0, 0, [], 0, .i64⟩,
  ⟨0, 1, [.nilFunc], [], 0, 0, 0, [], 0, .i64⟩,
  ⟨0, 1, [.nilFunc], [], 0, 0, 0, [], 0, .i64⟩,
  ⟨4, 2, [.slice none 0 0, .slice none 0 0], [(0, 1), (1, 1)], 0, 0, 0, [], 0, .i64⟩,
  ⟨4, 2, [.slice none 0 0, .slice none 0 0], [(0, 1), (1, 1)], 0, 0, 0, [], 0, .i64⟩,
  ⟨0, 1, [.nilFunc], [], 0, 0, 0, [], 0, .i64⟩,
  ⟨4, 0, [], [], 0, 0, 0, [], 0, .i64⟩,
  ⟨4, 0, [], [], 0, 0, 0, [], 0, .i64⟩,
  ⟨0, 1, [.tuple { toList := [.agg #[], .bool false] }], [], 0, 0, 0, [], 0, .i64⟩,
  ⟨2, 1, [.slice none 0 0], [], 148, 1, 4, [.int .u32 0], 0, .i64⟩,
  ⟨2, 1, [.slice none 0 0], [], 148, 1, 4, [.int .u32 0], 0, .i64⟩,
  ⟨4, 2, [.bool false, .slice none 0 0], [(0, 1), (1, 1)], 0, 0, 0, [], 0, .i64⟩,
  ⟨4, 2, [.bool false, .slice none 0 0], [(0, 1), (1, 1)], 0, 0, 0, [], 0, .i64⟩,
  ⟨4, 4, [.bool false, .slice none 0 0, .bool false, .slice none 0 0], [(0, 2), (2, 2)], 0, 0, 0, [], 0, .i64⟩,
  ⟨4, 4, [.bool false, .slice none 0 0, .bool false, .slice none 0 0], [(0, 2), (2, 2)], 0, 0, 0, [], 0, .i64⟩,
  ⟨4, 5, [.bool false, .slice none 0 0, .bool false, .slice none 0 0, .bool false], [(0, 4), (4, 1)], 0, 0, 0, [], 0, .i64⟩,
  ⟨4, 5, [.bool false, .slice none 0 0, .bool false, .slice none 0 0, .bool false], [(0, 4), (4, 1)], 0, 0, 0, [], 0, .i64⟩,
  ⟨0, 1, [.nilFunc], [], 0, 0, 0, [], 0, .i64⟩,
  ⟨0, 1, [.nilFunc], [], 0, 0, 0, [], 0, .i64⟩,
  ⟨0, 1, [.nilFunc], [], 0, 0, 0, [], 0, .i64⟩,
  ⟨0, 1, [.nilFunc], [], 0, 0, 0, [], 0, .i64⟩,
  ⟨0, 1, [.tuple { toList := [.agg { toList := [.int .i64 0, .string ⟨#[]⟩, .bool false] }, .bool false] }], [], 0, 0, 0, [], 0, .i64⟩,
  ⟨0, 1, [.nilFunc], [], 0, 0, 0, [], 0, .i64⟩,
  ⟨0, 1, [.nilFunc], [], 0, 0, 0, [], 0, .i64⟩,
  ⟨0, 1, [.nilFunc], [], 0, 0, 0, [], 0, .i64⟩,
  ⟨0, 1, [.nilFunc], [], 0, 0, 0, [], 0, .i64⟩,
  ⟨0, 1, [.nilFunc], [], 0, 0, 0, [], 0, .i64⟩,
  ⟨0, 1, [.pointer none], [], 0, 0, 0, [], 0, .i64⟩,
  ⟨4, 2, [.slice none 0 0, .int .i64 0], [(0, 1), (1, 1)], 0, 0, 0, [], 0, .i64⟩,
  ⟨4, 2, [.slice none 0 0, .int .i64 0], [(0, 1), (1, 1)], 0, 0, 0, [], 0, .i64⟩,
  ⟨0, 1, [.nilFunc], [], 0, 0, 0, [], 0, .i64⟩,
  ⟨0, 1, [.nilFunc], [], 0, 0, 0, [], 0, .i64⟩,
  ⟨0, 1, [.nilFunc], [], 0, 0, 0, [], 0, .i64⟩,
  ⟨0, 1, [.nilFunc], [], 0, 0, 0, [], 0, .i64⟩,
  ⟨0, 1, [.nilFunc], [], 0, 0, 0, [], 0, .i64⟩,
  ⟨0, 1, [.nilFunc], [], 0, 0, 0, [], 0, .i64⟩,
  ⟨0, 1, [.nilFunc], [], 0, 0, 0, [], 0, .i64⟩,
  ⟨0, 1, [.nilFunc], [], 0, 0, 0, [], 0, .i64⟩,
  ⟨0, 1, [.nilFunc], [], 0, 0, 0, [], 0, .i64⟩,
  ⟨0, 1, [.nilFunc], [], 0, 0, 0, [], 0, .i64⟩,
  ⟨0, 1, [.nilFunc], [], 0, 0, 0, [], 0, .i64⟩,
  ⟨0, 1, [.nilFunc], [], 0, 0, 0, [], 0, .i64⟩,
  ⟨0, 1, [.nilFunc], [], 0, 0, 0, [], 0, .i64⟩,
  ⟨0, 1, [.nilFunc], [], 0, 0, 0, [], 0, .i64⟩,
  ⟨4, 5, [.int .i64 0, .int .i64 0, .int .i64 0, .int .i64 0, .string ⟨#[]⟩], [(0, 1), (1, 1), (2, 1), (3, 1), (4, 1)], 0, 0, 0, [], 0, .i64⟩,
  ⟨4, 5, [.int .i64 0, .int .i64 0, .int .i64 0, .int .i64 0, .string ⟨#[]⟩], [(0, 1), (1, 1), (2, 1), (3, 1), (4, 1)], 0, 0, 0, [], 0, .i64⟩,
  ⟨0, 1, [.tuple { toList := [.agg { toList := [.int .i64 0, .int .i64 0, .int .i64 0, .int .i64 0, .string ⟨#[]⟩] }, .bool false] }], [], 0, 0, 0, [], 0, .i64⟩,
  ⟨0, 1, [.nilFunc], [], 0, 0, 0, [], 0, .i64⟩,
  ⟨0, 1, [.nilFunc], [], 0, 0, 0, [], 0, .i64⟩,
  ⟨0, 1, [.nilFunc], [], 0, 0, 0, [], 0, .i64⟩,
  ⟨0, 1, [.nilFunc], [], 0, 0, 0, [], 0, .i64⟩,
  ⟨0, 1, [.nilFunc], [], 0, 0, 0, [], 0, .i64⟩,
  ⟨0, 1, [.nilFunc], [], 0, 0, 0, [], 0, .i64⟩,
  ⟨0, 1, [.nilFunc], [], 0, 0, 0, [], 0, .i64⟩,
  ⟨3, 11, [.nilFunc, .nilFunc, .nilFunc, .nilFunc, .nilFunc, .nilFunc, .nilFunc, .nilFunc, .nilFunc, .nilFunc, .nilFunc], [], 98, 1, 8, [], 11, .i64⟩,
  ⟨0, 1, [.nilFunc], [], 0, 0, 0, [], 0, .i64⟩,
  ⟨0, 1, [.nilFunc], [], 0, 0, 0, [], 0, .i64⟩,
  ⟨0, 1, [.nilFunc], [], 0, 0, 0, [], 0, .i64⟩,
  ⟨0, 1, [.nilFunc], [], 0, 0, 0, [], 0, .i64⟩,
  ⟨0, 1, [.nilFunc], [], 0, 0, 0, [], 0, .i64⟩,
  ⟨0, 1, [.nilFunc], [], 0, 0, 0, [], 0, .i64⟩,
  ⟨0, 1, [.nilFunc], [], 0, 0, 0, [], 0, .i64⟩,
  ⟨0, 1, [.tuple { toList := [.agg { toList := [.int .i64 0, .int .i64 0, .string ⟨#[]⟩, .slice none 0 0] }, .int .i64 0, .int .i64 0] }], [], 0, 0, 0, [], 0, .i64⟩,
  ⟨0, 1, [.nilFunc], [], 0, 0, 0, [], 0, .i64⟩,
  ⟨0, 1, [.nilFunc], [], 0, 0, 0, [], 0, .i64⟩,
  ⟨0, 1, [.tuple { toList := [.string ⟨#[]⟩, .int .i64 0] }], [], 0, 0, 0, [], 0, .i64⟩,
  ⟨0, 1, [.nilFunc], [], 0, 0, 0, [], 0, .i64⟩,
  ⟨3, 8, [.int .i64 0, .int .i64 0, .int .i64 0, .int .i64 0, .int .i64 0, .int .i64 0, .int .i64 0, .int .i64 0], [], 3, 1, 8, [], 8, .i64⟩,
  ⟨0, 1, [.nilFunc], [], 0, 0, 0, [], 0, .i64⟩,
  ⟨0, 1, [.nilFunc], [], 0, 0, 0, [], 0, .i64⟩,
  ⟨0, 1, [.nilFunc], [], 0, 0, 0, [], 0, .i64⟩,
  ⟨0, 1, [.nilFunc], [], 0, 0, 0, [], 0, .i64⟩,
  ⟨4, 5, [.bool false, .slice none 0 0, .bool false, .slice none 0 0, .int .i64 0], [(0, 4), (4, 1)], 0, 0, 0, [], 0, .i64⟩,
  ⟨4, 5, [.bool false, .slice none 0 0, .bool false, .slice none 0 0, .int .i64 0], [(0, 4), (4, 1)], 0, 0, 0, [], 0, .i64⟩,
  ⟨0, 1, [.nilFunc], [], 0, 0, 0, [], 0, .i64⟩,
  ⟨0, 1, [.nilFunc], [], 0, 0, 0, [], 0, .i64⟩,
  ⟨0, 1, [.nilFunc], [], 0, 0, 0, [], 0, .i64⟩,
  ⟨4, 3, [.int .i64 0, .string ⟨#[]⟩, .int .i64 0], [(0, 1), (1, 1), (2, 1)], 0, 0, 0, [], 0, .i64⟩,
  ⟨4, 3, [.int .i64 0, .string ⟨#[]⟩, .int .i64 0], [(0, 1), (1, 1), (2, 1)], 0, 0, 0, [], 0, .i64⟩,
  ⟨3, 100, [.int .i64 0, .int .i64 0, .int .i64 0, .int .i64 0, .string ⟨#[]⟩, .int .i64 0, .int .i64 0, .int .i64 0, .int .i64 0, .string ⟨#[]⟩, .int .i64 0, .int .i64 0, .int .i64 0, .int .i64 0, .string ⟨#[]⟩, .int .i64 0, .int .i64 0, .int .i64 0, .int .i64 0, .string ⟨#[]⟩, .int .i64 0, .int .i64 0, .int .i64 0, .int .i64 0, .string ⟨#[]⟩, .int .i64 0, .int .i64 0, .int .i64 0, .int .i64 0, .string ⟨#[]⟩, .int .i64 0, .int .i64 0, .int .i64 0, .int .i64 0, .string ⟨#[]⟩, .int .i64 0, .int .i64 0, .int .i64 0, .int .i64 0, .string ⟨#[]⟩, .int .i64 0, .int .i64 0, .int .i64 0, .int .i64 0, .string ⟨#[]⟩, .int .i64 0, .int .i64 0, .int .i64 0, .int .i64 0, .string ⟨#[]⟩, .int .i64 0, .int .i64 0, .int .i64 0, .int .i64 0, .string ⟨#[]⟩, .int .i64 0, .int .i64 0, .int .i64 0, .int .i64 0, .string ⟨#[]⟩, .int .i64 0, .int .i64 0, .int .i64 0, .int .i64 0, .string ⟨#[]⟩, .int .i64 0, .int .i64 0, .int .i64 0, .int .i64 0, .string ⟨#[]⟩, .int .i64 0, .int .i64 0, .int .i64 0, .int .i64 0, .string ⟨#[]⟩, .int .i64 0, .int .i64 0, .int .i64 0, .int .i64 0, .string ⟨#[]⟩, .int .i64 0, .int .i64 0, .int .i64 0, .int .i64 0, .string ⟨#[]⟩, .int .i64 0, .int .i64 0, .int .i64 0, .int .i64 0, .string ⟨#[]⟩, .int .i64 0, .int .i64 0, .int .i64 0, .int .i64 0, .string ⟨#[]⟩, .int .i64 0, .int .i64 0, .int .i64 0, .int .i64 0, .string ⟨#[]⟩], [], 108, 5, 48, [], 20, .i64⟩,
  ⟨0, 1, [.nilFunc], [], 0, 0, 0, [], 0, .i64⟩,
  ⟨0, 1, [.nilFunc], [], 0, 0, 0, [], 0, .i64⟩,
  ⟨0, 1, [.nilFunc], [], 0, 0, 0, [], 0, .i64⟩,
  ⟨0, 1, [.nilFunc], [], 0, 0, 0, [], 0, .i64⟩,
  ⟨3, 17, [.bool false, .bool false, .bool false, .bool false, .bool false, .bool false, .bool false, .bool false, .bool false, .bool false, .bool false, .bool false, .bool false, .bool false, .bool false, .bool false, .bool false], [], 4, 1, 1, [], 17, .i64⟩,
  ⟨5, 1, [.int .u32 0], [], 0, 0, 0, [], 0, .u32⟩,
  ⟨0, 1, [.pointer none], [], 0, 0, 0, [], 0, .i64⟩,
  ⟨4, 2, [.pointer none, .slice none 0 0], [(0, 1), (1, 1)], 0, 0, 0, [], 0, .i64⟩,
  ⟨4, 2, [.pointer none, .slice none 0 0], [(0, 1), (1, 1)], 0, 0, 0, [], 0, .i64⟩,
  ⟨0, 1, [.nilIface], [], 0, 0, 0, [], 0, .i64⟩,
  ⟨0, 1, [.nilIface], [], 0, 0, 0, [], 0, .i64⟩,
  ⟨0, 1, [.nilFunc], [], 0, 0, 0, [], 0, .i64⟩,
  ⟨0, 1, [.nilFunc], [], 0, 0, 0, [], 0, .i64⟩,
  ⟨0, 1, [.tuple { toList := [.int .i64 0, .nilIface] }], [], 0, 0, 0, [], 0, .i64⟩,
  ⟨0, 1, [.nilFunc], [], 0, 0, 0, [], 0, .i64⟩,
  ⟨0, 1, [.nilFunc], [], 0, 0, 0, [], 0, .i64⟩,
  ⟨0, 1, [.nilFunc], [], 0, 0, 0, [], 0, .i64⟩,
  ⟨0, 1, [.nilFunc], [], 0, 0, 0, [], 0, .i64⟩,
  ⟨0, 1, [.tuple { toList := [.string ⟨#[]⟩, .string ⟨#[]⟩] }], [], 0, 0, 0, [], 0, .i64⟩,
  ⟨0, 1, [.nilFunc], [], 0, 0, 0, [], 0, .i64⟩,
  ⟨0, 1, [.nilFunc], [], 0, 0, 0, [], 0, .i64⟩,
  ⟨0, 1, [.nilFunc], [], 0, 0, 0, [], 0, .i64⟩,
  ⟨0, 1, [.nilFunc], [], 0, 0, 0, [], 0, .i64⟩,
  ⟨0, 1, [.nilFunc], [], 0, 0, 0, [], 0, .i64⟩,
  ⟨2, 1, [.slice none 0 0], [], 141, 3, 32, [.int .i64 0, .string ⟨#[]⟩, .int .i64 0], 0, .i64⟩,
  ⟨0, 1, [.tuple { toList := [.slice none 0 0, .int .i64 0, .int .i64 0] }], [], 0, 0, 0, [], 0, .i64⟩,
  ⟨0, 1, [.nilFunc], [], 0, 0, 0, [], 0, .i64⟩,
  ⟨0, 1, [.nilFunc], [], 0, 0, 0, [], 0, .i64⟩,
  ⟨0, 1, [.nilFunc], [], 0, 0, 0, [], 0, .i64⟩,
  ⟨0, 1, [.nilFunc], [], 0, 0, 0, [], 0, .i64⟩,
  ⟨0, 1, [.tuple { toList := [.agg { toList := [.bool false, .slice none 0 0] }, .agg { toList := [.bool false, .slice none 0 0] }] }], [], 0, 0, 0, [], 0, .i64⟩,
  ⟨0, 1, [.nilFunc], [], 0, 0, 0, [], 0, .i64⟩,
  ⟨5, 1, [.int .u64 0], [], 0, 0, 0, [], 0, .u64⟩,
  ⟨0, 1, [.nilFunc], [], 0, 0, 0, [], 0, .i64⟩,
  ⟨0, 1, [.nilFunc], [], 0, 0, 0, [], 0, .i64⟩,
  ⟨0, 1, [.nilFunc], [], 0, 0, 0, [], 0, .i64⟩,
  ⟨0, 1, [.tuple { toList := [.string ⟨#[]⟩, .string ⟨#[]⟩, .bool false] }], [], 0, 0, 0, [], 0, .i64⟩,
  ⟨0, 1, [.nilFunc], [], 0, 0, 0, [], 0, .i64⟩,
  ⟨0, 1, [.nilFunc], [], 0, 0, 0, [], 0, .i64⟩,
  ⟨0, 1, [.nilFunc], [], 0, 0, 0, [], 0, .i64⟩,
  ⟨0, 1, [.nilFunc], [], 0, 0, 0, [], 0, .i64⟩,
  ⟨0, 1, [.nilFunc], [], 0, 0, 0, [], 0, .i64⟩,
  ⟨0, 1, [.nilFunc], [], 0, 0, 0, [], 0, .i64⟩,
  ⟨0, 1, [.pointer none], [], 0, 0, 0, [], 0, .i64⟩,
  ⟨0, 1, [.nilFunc], [], 0, 0, 0, [], 0, .i64⟩,
  ⟨0, 1, [.nilFunc], [], 0, 0, 0, [], 0, .i64⟩,
  ⟨0, 1, [.nilFunc], [], 0, 0, 0, [], 0, .i64⟩,
  ⟨0, 1, [.nilFunc], [], 0, 0, 0, [], 0, .i64⟩,
  ⟨0, 1, [.nilFunc], [], 0, 0, 0, [], 0, .i64⟩,
  ⟨0, 1, [.nilFunc], [], 0, 0, 0, [], 0, .i64⟩,
  ⟨0, 1, [.nilFunc], [], 0, 0, 0, [], 0, .i64⟩,
  ⟨0, 1, [.nilFunc], [], 0, 0, 0, [], 0, .i64⟩,
  ⟨4, 1, [.int .i64 0], [(0, 1)], 0, 0, 0, [], 0, .i64⟩,
  ⟨4, 1, [.int .i64 0], [(0, 1)], 0, 0, 0, [], 0, .i64⟩,
  ⟨0, 1, [.tuple { toList := [.agg { toList := [.int .i64 0] }, .bool false] }], [], 0, 0, 0, [], 0, .i64⟩,
  ⟨0, 1, [.nilFunc], [], 0, 0, 0, [], 0, .i64⟩,
  ⟨0, 1, [.nilFunc], [], 0, 0, 0, [], 0, .i64⟩,
  ⟨0, 1, [.nilFunc], [], 0, 0, 0, [], 0, .i64⟩,
  ⟨0, 1, [.nilFunc], [], 0, 0, 0, [], 0, .i64⟩,
  ⟨0, 1, [.nilFunc], [], 0, 0, 0, [], 0, .i64⟩,
  ⟨0, 1, [.pointer none], [], 0, 0, 0, [], 0, .i64⟩,
  ⟨4, 2, [.slice none 0 0, .int .i64 0], [(0, 1), (1, 1)], 0, 0, 0, [], 0, .i64⟩,
  ⟨4, 2, [.slice none 0 0, .int .i64 0], [(0, 1), (1, 1)], 0, 0, 0, [], 0, .i64⟩,
  ⟨4, 2, [.slice none 0 0, .int .i64 0], [(0, 2)], 0, 0, 0, [], 0, .i64⟩,
  ⟨4, 2, [.slice none 0 0, .int .i64 0], [(0, 2)], 0, 0, 0, [], 0, .i64⟩,
  ⟨4, 0, [], [], 0, 0, 0, [], 0, .i64⟩,
  ⟨0, 1, [.tuple { toList := [.agg #[], .bool false] }], [], 0, 0, 0, [], 0, .i64⟩,
  ⟨0, 1, [.nilFunc], [], 0, 0, 0, [], 0, .i64⟩,
  ⟨0, 1, [.tuple { toList := [.slice none 0 0, .slice none 0 0] }], [], 0, 0, 0, [], 0, .i64⟩,
  ⟨0, 1, [.nilFunc], [], 0, 0, 0, [], 0, .i64⟩,
  ⟨0, 1, [.nilFunc], [], 0, 0, 0, [], 0, .i64⟩,
  ⟨0, 1, [.nilFunc], [], 0, 0, 0, [], 0, .i64⟩,
  ⟨0, 1, [.nilFunc], [], 0, 0, 0, [], 0, .i64⟩,
  ⟨0, 1, [.pointer none], [], 0, 0, 0, [], 0, .i64⟩,
  ⟨0, 1, [.nilFunc], [], 0, 0, 0, [], 0, .i64⟩,
  ⟨0, 1, [.nilFunc], [], 0, 0, 0, [], 0, .i64⟩,
  ⟨0, 1, [.tuple { toList := [.int .i64 0, .int .i64 0, .bool false] }], [], 0, 0, 0, [], 0, .i64⟩,
  ⟨0, 1, [.nilFunc], [], 0, 0, 0, [], 0, .i64⟩,
  ⟨0, 1, [.tuple { toList := [.slice none 0 0, .slice none 0 0] }], [], 0, 0, 0, [], 0, .i64⟩,
  ⟨0, 1, [.nilFunc], [], 0, 0, 0, [], 0, .i64⟩,
  ⟨0, 1, [.nilFunc], [], 0, 0, 0, [], 0, .i64⟩,
  ⟨0, 1, [.nilFunc], [], 0, 0, 0, [], 0, .i64⟩,
  ⟨0, 1, [.nilFunc], [], 0, 0, 0, [], 0, .i64⟩,
  ⟨0, 1, [.pointer none], [], 0, 0, 0, [], 0, .i64⟩,
  ⟨4, 2, [.string ⟨#[]⟩, .int .i64 0], [(0, 1), (1, 1)], 0, 0, 0, [], 0, .i64⟩,
  ⟨4, 2, [.string ⟨#[]⟩, .int .i64 0], [(0, 1), (1, 1)], 0, 0, 0, [], 0, .i64⟩,
  ⟨3, 3, [.nilFunc, .nilFunc, .nilFunc], [], 187, 1, 8, [], 3, .i64⟩,
  ⟨0, 1, [.nilFunc], [], 0, 0, 0, [], 0, .i64⟩,
  ⟨4, 5, [.string ⟨#[]⟩, .int .i64 0, .nilFunc, .nilFunc, .nilFunc], [(0, 2), (2, 3)], 0, 0, 0, [], 0, .i64⟩,
  ⟨4, 5, [.string ⟨#[]⟩, .int .i64 0, .nilFunc, .nilFunc, .nilFunc], [(0, 2), (2, 3)], 0, 0, 0, [], 0, .i64⟩,
  ⟨0, 1, [.nilFunc], [], 0, 0, 0, [], 0, .i64⟩,
  ⟨0, 1, [.nilFunc], [], 0, 0, 0, [], 0, .i64⟩,
  ⟨0, 1, [.tuple { toList := [.slice none 0 0, .int .u32 0] }], [], 0, 0, 0, [], 0, .i64⟩,
  ⟨0, 1, [.nilFunc], [], 0, 0, 0, [], 0, .i64⟩,
  ⟨0, 1, [.nilFunc], [], 0, 0, 0, [], 0, .i64⟩,
  ⟨0, 1, [.nilFunc], [], 0, 0, 0, [], 0, .i64⟩,
  ⟨0, 1, [.nilFunc], [], 0, 0, 0, [], 0, .i64⟩,
  ⟨0, 1, [.nilFunc], [], 0, 0, 0, [], 0, .i64⟩,
  ⟨0, 1, [.nilFunc], [], 0, 0, 0, [], 0, .i64⟩,
  ⟨0, 1, [.nilFunc], [], 0, 0, 0, [], 0, .i64⟩,
  ⟨0, 1, [.nilFunc], [], 0, 0, 0, [], 0, .i64⟩,
  ⟨0, 1, [.tuple { toList := [.int .u64 0, .nilIface] }], [], 0, 0, 0, [], 0, .i64⟩,
  ⟨0, 1, [.nilFunc], [], 0, 0, 0, [], 0, .i64⟩,
  ⟨3, 24, [.int .u8 0, .int .u8 0, .int .u8 0, .int .u8 0, .int .u8 0, .int .u8 0, .int .u8 0, .int .u8 0, .int .u8 0, .int .u8 0, .int .u8 0, .int .u8 0, .int .u8 0, .int .u8 0, .int .u8 0, .int .u8 0, .int .u8 0, .int .u8 0, .int .u8 0, .int .u8 0, .int .u8 0, .int .u8 0, .int .u8 0, .int .u8 0], [], 5, 1, 1, [], 24, .i64⟩,
  ⟨0, 1, [.nilFunc], [], 0, 0, 0, [], 0, .i64⟩,
  ⟨0, 1, [.nilFunc], [], 0, 0, 0, [], 0, .i64⟩,
  ⟨0, 1, [.tuple { toList := [.slice none 0 0, .string ⟨#[]⟩] }], [], 0, 0, 0, [], 0, .i64⟩,
  ⟨0, 1, [.nilFunc], [], 0, 0, 0, [], 0, .i64⟩,
  ⟨4, 2, [.int .u8 0, .int .u8 0], [(0, 1), (1, 1)], 0, 0, 0, [], 0, .i64⟩,
  ⟨4, 2, [.int .u8 0, .int .u8 0], [(0, 1), (1, 1)], 0, 0, 0, [], 0, .i64⟩,
  ⟨0, 1, [.nilFunc], [], 0, 0, 0, [], 0, .i64⟩,
  ⟨0, 1, [.tuple { toList := [.int .i64 0, .bool false] }], [], 0, 0, 0, [], 0, .i64⟩,
  ⟨0, 1, [.nilFunc], [], 0, 0, 0, [], 0, .i64⟩,
  ⟨0, 1, [.nilFunc], [], 0, 0, 0, [], 0, .i64⟩,
  ⟨5, 1, [.int .u64 0], [], 0, 0, 0, [], 0, .u64⟩,
  ⟨0, 1, [.nilFunc], [], 0, 0, 0, [], 0, .i64⟩,
  ⟨0, 1, [.nilFunc], [], 0, 0, 0, [], 0, .i64⟩,
  ⟨0, 1, [.nilFunc], [], 0, 0, 0, [], 0, .i64⟩,
  ⟨3, 20, [.int .u64 0, .int .u64 0, .int .u64 0, .int .u64 0, .int .u64 0, .int .u64 0, .int .u64 0, .int .u64 0, .int .u64 0, .int .u64 0, .int .u64 0, .int .u64 0, .int .u64 0, .int .u64 0, .int .u64 0, .int .u64 0, .int .u64 0, .int .u64 0, .int .u64 0, .int .u64 0], [], 175, 1, 8, [], 20, .i64⟩,
  ⟨3, 65, [.int .u8 0, .int .u8 0, .int .u8 0, .int .u8 0, .int .u8 0, .int .u8 0, .int .u8 0, .int .u8 0, .int .u8 0, .int .u8 0, .int .u8 0, .int .u8 0, .int .u8 0, .int .u8 0, .int .u8 0, .int .u8 0, .int .u8 0, .int .u8 0, .int .u8 0, .int .u8 0, .int .u8 0, .int .u8 0, .int .u8 0, .int .u8 0, .int .u8 0, .int .u8 0, .int .u8 0, .int .u8 0, .int .u8 0, .int .u8 0, .int .u8 0, .int .u8 0, .int .u8 0, .int .u8 0, .int .u8 0, .int .u8 0, .int .u8 0, .int .u8 0, .int .u8 0, .int .u8 0, .int .u8 0, .int .u8 0, .int .u8 0, .int .u8 0, .int .u8 0, .int .u8 0, .int .u8 0, .int .u8 0, .int .u8 0, .int .u8 0, .int .u8 0, .int .u8 0, .int .u8 0, .int .u8 0, .int .u8 0, .int .u8 0, .int .u8 0, .int .u8 0, .int .u8 0, .int .u8 0, .int .u8 0, .int .u8 0, .int .u8 0, .int .u8 0, .int .u8 0], [], 5, 1, 1, [], 65, .i64⟩,
  ⟨0, 1, [.nilFunc], [], 0, 0, 0, [], 0, .i64⟩,
  ⟨0, 1, [.tuple { toList := [.int .u32 0, .int .u32 0] }], [], 0, 0, 0, [], 0, .i64⟩,
  ⟨0, 1, [.nilFunc], [], 0, 0, 0, [], 0, .i64⟩,
  ⟨5, 1, [.int .i64 0], [], 0, 0, 0, [], 0, .i64⟩,
  ⟨0, 1, [.nilFunc], [], 0, 0, 0, [], 0, .i64⟩,
  ⟨0, 1, [.pointer none], [], 0, 0, 0, [], 0, .i64⟩,
  ⟨0, 1, [.nilFunc], [], 0, 0, 0, [], 0, .i64⟩,
  ⟨0, 1, [.nilFunc], [], 0, 0, 0, [], 0, .i64⟩,
  ⟨0, 1, [.nilFunc], [], 0, 0, 0, [], 0, .i64⟩,
  ⟨0, 1, [.tuple { toList := [.int .i64 0, .nilIface] }], [], 0, 0, 0, [], 0, .i64⟩,
  ⟨0, 1, [.nilFunc], [], 0, 0, 0, [], 0, .i64⟩,
  ⟨4, 3, [.string ⟨#[]⟩, .string ⟨#[]⟩, .nilIface], [(0, 1), (1, 1), (2, 1)], 0, 0, 0, [], 0, .i64⟩,
  ⟨4, 3, [.string ⟨#[]⟩, .string ⟨#[]⟩, .nilIface], [(0, 1), (1, 1), (2, 1)], 0, 0, 0, [], 0, .i64⟩,
  ⟨0, 1, [.nilFunc], [], 0, 0, 0, [], 0, .i64⟩,
  ⟨3, 32, [.int .u8 0, .int .u8 0, .int .u8 0, .int .u8 0, .int .u8 0, .int .u8 0, .int .u8 0, .int .u8 0, .int .u8 0, .int .u8 0, .int .u8 0, .int .u8 0, .int .u8 0, .int .u8 0, .int .u8 0, .int .u8 0, .int .u8 0, .int .u8 0, .int .u8 0, .int .u8 0, .int .u8 0, .int .u8 0, .int .u8 0, .int .u8 0, .int .u8 0, .int .u8 0, .int .u8 0, .int .u8 0, .int .u8 0, .int .u8 0, .int .u8 0, .int .u8 0], [], 5, 1, 1, [], 32, .i64⟩,
  ⟨3, 64, [.int .u8 0, .int .u8 0, .int .u8 0, .int .u8 0, .int .u8 0, .int .u8 0, .int .u8 0, .int .u8 0, .int .u8 0, .int .u8 0, .int .u8 0, .int .u8 0, .int .u8 0, .int .u8 0, .int .u8 0, .int .u8 0, .int .u8 0, .int .u8 0, .int .u8 0, .int .u8 0, .int .u8 0, .int .u8 0, .int .u8 0, .int .u8 0, .int .u8 0, .int .u8 0, .int .u8 0, .int .u8 0, .int .u8 0, .int .u8 0, .int .u8 0, .int .u8 0, .int .u8 0, .int .u8 0, .int .u8 0, .int .u8 0, .int .u8 0, .int .u8 0, .int .u8 0, .int .u8 0, .int .u8 0, .int .u8 0, .int .u8 0, .int .u8 0, .int .u8 0, .int .u8 0, .int .u8 0, .int .u8 0, .int .u8 0, .int .u8 0, .int .u8 0, .int .u8 0, .int .u8 0, .int .u8 0, .int .u8 0, .int .u8 0, .int .u8 0, .int .u8 0, .int .u8 0, .int .u8 0, .int .u8 0, .int .u8 0, .int .u8 0, .int .u8 0], [], 5, 1, 1, [], 64, .i64⟩,
  ⟨0, 1, [.pointer none], [], 0, 0, 0, [], 0, .i64⟩,
  ⟨4, 1, [.string ⟨#[]⟩], [(0, 1)], 0, 0, 0, [], 0, .i64⟩,
  ⟨4, 1, [.string ⟨#[]⟩], [(0, 1)], 0, 0, 0, [], 0, .i64⟩,
  ⟨4, 4, [.pointer none, .pointer none, .pointer none, .string ⟨#[]⟩], [(0, 1), (1, 1), (2, 1), (3, 1)], 0, 0, 0, [], 0, .i64⟩,
  ⟨4, 4, [.pointer none, .pointer none, .pointer none, .string ⟨#[]⟩], [(0, 1), (1, 1), (2, 1), (3, 1)], 0, 0, 0, [], 0, .i64⟩,
  ⟨3, 0, [], [], 16, 1, 8, [], 0, .i64⟩,
  ⟨4, 0, [], [(0, 0)], 0, 0, 0, [], 0, .i64⟩,
  ⟨4, 0, [], [(0, 0)], 0, 0, 0, [], 0, .i64⟩,
  ⟨5, 1, [.int .u8 0], [], 0, 0, 0, [], 0, .u8⟩,
  ⟨5, 1, [.int .u8 0], [], 0, 0, 0, [], 0, .u8⟩,
  ⟨0, 1, [.nilFunc], [], 0, 0, 0, [], 0, .i64⟩,
  ⟨5, 1, [.int .i32 0], [], 0, 0, 0, [], 0, .i32⟩,
  ⟨5, 1, [.int .i32 0], [], 0, 0, 0, [], 0, .i32⟩,
  ⟨4, 11, [.int .u64 0, .int .u64 0, .int .u32 0, .int .u8 0, .int .u8 0, .int .u8 0, .int .u8 0, .nilFunc, .pointer none, .int .i32 0, .int .i32 0], [(0, 1), (1, 1), (2, 1), (3, 1), (4, 1), (5, 1), (6, 1), (7, 1), (8, 1), (9, 1), (10, 1)], 0, 0, 0, [], 0, .i64⟩,
  ⟨4, 11, [.int .u64 0, .int .u64 0, .int .u32 0, .int .u8 0, .int .u8 0, .int .u8 0, .int .u8 0, .nilFunc, .pointer none, .int .i32 0, .int .i32 0], [(0, 1), (1, 1), (2, 1), (3, 1), (4, 1), (5, 1), (6, 1), (7, 1), (8, 1), (9, 1), (10, 1)], 0, 0, 0, [], 0, .i64⟩]
def tyi (t : Nat) : TyI := tyTab.getD t tyNone
def Ba : Nat -> Bool := fun t => decide (t < 294)
set_option maxRecDepth 100000 in
theorem tyAll : (List.range 294).map (fun t => bif Ba t then TyI.of Tryz.prog t else none) = (List.range 294).map (fun t => bif Ba t then some (tyi t) else none) := by kernel_rfl
theorem Fj (t : Nat) (h : Ba t = true) : TyI.of Tryz.prog t = some (tyi t) := by
  have hlt : t < 294 := by
    simp only [Ba, Bool.and_eq_true, decide_eq_true_eq] at h
    omega
  have h1 := congrArg (fun l => l[t]?) tyAll
  simp only [List.getElem?_map, List.getElem?_range hlt, Option.map_some, h, cond_true, Option.some.injEq] at h1
  exact h1
end Go.Proofs.YtjagmmmcibdibaaGreatDoor
namespace Go.Proofs.YtjagmmmcibdibaaGreatDoor
open Go.RowKit
section
variable {N : Nat} {ops : Array Oper} {rest : List Oper} {o : Oper} {F : Nat -> PV} {S S' : PS} {q : WRes -> Prop} {C : Prop} {r : PV} {Q : Exit -> (Nat -> PV) -> PS -> Prop}
theorem wst (hg : Al ops F o = some true) (h : Hd tyi Ba F S o.op = some (C, r, S')) (hC : C) (k : WK Tryz.prog N ops rest (Cd N o.dst r F) S' q) : WK Tryz.prog N ops (o :: rest) F S q :=
  Eo hg (Hz Fj h hC) k
theorem wstB {r' : PV} {S'' : PS} (hg : Al ops F o = some true) (h : He tyi Ba F S o.op = some (C, r, S')) (hr : r = r') (hS : S' = S'') (hC : C) (k : WK Tryz.prog N ops rest (Cd N o.dst r' F) S'' q) : WK Tryz.prog N ops (o :: rest) F S q := by
  subst hr; subst hS
  exact Eo hg (Fv Fj h hC) k
theorem wix {t : TypeId} {x y : Operand} {l : List (List DV)} {kd : IntKind} {j : Int} (e : List DV) (hg : Al ops F o = some true) (ho : o.op = .indexAddr t x y) (hk : (Ba t && Nat.beq (tyi t).kind 2) = true) (hx : S.toS (tyi t).ek (evP F x) = some l) (hy : evP F y = .d (.v (.int kd j)))
    (he : l[j.toNat]? = some e) (h0 : 0 <= j) (k : WK Tryz.prog N ops rest (Cd N o.dst (.ep e) F) S q) : WK Tryz.prog N ops (o :: rest) F S q := by
  simp only [Bool.and_eq_true] at hk
  exact Eo hg (Ji ho (Fj t hk.1) (Nat.eq_of_beq_eq_true hk.2) hx hy h0 he) k
end
abbrev Aw (f : Nat) (args : List PV) (S : PS) (out : POut) (S' : PS) : Prop := Ent Tryz.prog f /\ EvC Tryz.prog f args S out S'
theorem Af {f : Nat} {fn : Func} {c : Code} {args : List PV} {S : PS} {out : POut} {S' : PS} (hf : Tryz.prog.funcs[f]? = some fn) (hname : (fn.name == "runtime.NumGoroutine") = false) (hb : fn.body = some c) (hn : args.length <= fn.ntmps) (hS : S'.boxes.length = S.boxes.length) (hT : S.toks.length <= S'.toks.length)
    (h : PW Tryz.prog fn.ntmps c (Q8 Tryz.prog fn out S') (Hj args) S) : Aw f args S out S' :=
  ⟨enters_of hf hname hb, Aen hf hb hn hS hT h⟩
theorem Ag {F : Nat -> PV} : Tq [] F := fun _ h => by cases h
theorem Aa {F : Nat -> PV} {t : Nat} {p : PV} {L : List (Nat × PV)} (h : F t = p) (h' : Tq L F) : Tq ((t, p) :: L) F := fun q hq => by
  rcases List.mem_cons.1 hq with rfl | hq
  . exact h
  . exact h' q hq
def resP (F : Nat -> PV) (S : PS) : ResultVar -> Option PV
  | .tmp t => match Yp S (F t) with
    | some (_, p, _) => some p
    | none => none
  | .cell x T => bif Ba T then
      match F x with
      | .ptr id off => match S.boxes[id]? with
        | some c => bif (tyi T).isRow then (bif Nat.ble (off + (tyi T).size) c.length then some (.agg ((c.drop off).take (tyi T).size)) else none) else c[off]?
        | none => none
      | _ => none
    else none
def Wa (F : Nat -> PV) (S : PS) : List ResultVar -> Option (List PV)
  | [] => some []
  | r :: rs => match resP F S r with
    | some p => match Wa F S rs with
      | some ps => some (p :: ps)
      | none => none
    | none => none
theorem resP_ok {F : Nat -> PV} {S : PS} {r : ResultVar} {p : PV} (h : resP F S r = some p) : Q6 Tryz.prog F S r p := by
  cases r with
  | tmp t =>
    simp only [resP] at h
    simp only [Q6]
    cases e : F t <;> rw [e] at h <;> simp only [Yp, Option.some.injEq] at h <;> exact h
  | cell x T =>
    simp only [resP] at h
    simp only [Q6]
    cases hk : Ba T with
    | false => rw [hk] at h; cases h
    | true =>
      rw [hk] at h
      simp only [cond_true] at h
      split at h
      . rename_i id off hx
        split at h
        . rename_i c hc
          refine ⟨id, off, c, tyi T, hx, hc, Fj T hk, ?_⟩
          cases hr : (tyi T).isRow with
          | true =>
            rw [hr] at h
            simp only [cond_true] at h
            cases hle : Nat.ble (off + (tyi T).size) c.length with
            | false => rw [hle] at h; cases h
            | true => rw [hle] at h; cases h; exact .inl ⟨rfl, by simpa using hle, rfl⟩
          | false => rw [hr] at h; exact .inr ⟨rfl, h⟩
        . cases h
      . cases h
theorem B5 {F : Nat -> PV} {S : PS} : ∀ {rs : List ResultVar} {ps : List PV}, Wa F S rs = some ps -> Ka Tryz.prog F S rs ps
  | [], ps, h => by simp only [Wa] at h; cases h; rfl
  | r :: rs, ps, h => by
    simp only [Wa] at h
    split at h
    . rename_i p hp
      split at h
      . rename_i ps' hps; cases h; exact ⟨p, ps', rfl, resP_ok hp, B5 hps⟩
      . cases h
    . cases h
theorem fin {fn : Func} {F : Nat -> PV} {S S' : PS} {e : Exit} {ps : List PV} {r r' : PV} (hall : (S.boxes.take S'.boxes.length).all (fun c => PV.ltL S'.boxes.length S'.toks.length c) = true) (hcut : S.cut S'.boxes.length S'.toks.length = S') (he : e = .normal \/ e = .ret)
    (hps : Wa F S fn.results.toList = some ps) (hv : Tp ps = r') (hr : r' = r) (hlt : r.lt S'.boxes.length S'.toks.length = true) : Q8 Tryz.prog fn (.ret r) S' e F S :=
  ⟨hall, hcut, he, ps, B5 hps, hv.trans hr, hlt⟩
end Go.Proofs.YtjagmmmcibdibaaGreatDoor
namespace Go.Proofs.YtjagmmmcibdibaaGreatDoor
open Go.RowKit
def NL (l l' : List PV) : Prop := l = l'
theorem Iq {l : List PV} (h : l = []) : NL l [] := h
theorem Af3 {l r r' : List PV} {c : DV} (h : l = .d c :: r) (k : NL r r') : NL l (.d c :: r') := by cases k; exact h
theorem Af4 {l r r' : List PV} {id off : Nat} (h : l = .ptr id off :: r) (k : NL r r') : NL l (.ptr id off :: r') := by cases k; exact h
theorem Af6 {l r r' : List PV} {a : PV} (h : l = a :: r) (k : NL r r') : NL l (a :: r') := by cases k; exact h
def NB (l l' : List (List PV)) : Prop := l = l'
theorem Af1 {l : List (List PV)} (h : l = []) : NB l [] := h
theorem X0 {l r r' : List (List PV)} {c c' : List PV} (h : l = c :: r) (k1 : NL c c') (k : NB r r') : NB l (c' :: r') := by cases k1; cases k; exact h
def NT (l l' : List RTok) : Prop := l = l'
theorem Agc {l : List RTok} (h : l = []) : NT l [] := h
theorem X5 {l r r' : List RTok} {T : RTok} (h : l = T :: r) (k : NT r r') : NT l (T :: r') := by cases k; exact h
theorem ns_of {S : PS} {bs bs' : List (List PV)} {ts ts' : List RTok} (h : S = ⟨bs, ts⟩) (k : NB bs bs') (k' : NT ts ts') : S = ⟨bs', ts'⟩ := by cases k; cases k'; exact h
theorem Ol {r : PV} {l l' : List PV} (h : r = .agg l) (k : NL l l') : r = .agg l' := by cases k; exact h
theorem nr_tup {r : PV} {l l' : List PV} (h : r = .tup l) (k : NL l l') : r = .tup l' := by cases k; exact h
theorem nr_d {r : PV} {c : DV} (h : r = .d c) : r = .d c := h
mutual
def fitP : PV -> Prop
  | .d (.sl _ l) => l.length <= 9223372036854775807
  | .agg l => fitL l
  | _ => True
def fitL : List PV -> Prop
  | [] => True
  | p :: r => fitP p /\ fitL r
end
mutual
theorem rep_fit {K : Kx} {w : World} : ∀ (p : PV) (u : Value), Rep K w p u -> fitP p
  | .d (.sl k l), u, h => by
    simp only [Rep, Cj] at h
    obtain ⟨_, cap, _, h1, h2, _⟩ := h
    exact Nat.le_trans h1 h2
  | .agg l, u, h => by
    simp only [Rep] at h
    obtain ⟨cs, _, h⟩ := h
    exact Nn l cs h
  | .d (.v _), _, _ => trivial
  | .any, _, _ => trivial
  | .un, _, _ => trivial
  | .tup _, _, _ => trivial
  | .ptr _ _, _, _ => trivial
  | .ep _, _, _ => trivial
  | .hd _ _, _, _ => trivial
  | .bsl _ _ _ _ _, _, _ => trivial
  | .fn _ _, _, _ => trivial
theorem Nn {K : Kx} {w : World} : ∀ (l : List PV) (us : List Value), Ap K w l us -> fitL l
  | [], _, _ => trivial
  | p :: r, us, h => by
    simp only [Ap] at h
    obtain ⟨u, us', _, h1, h2⟩ := h
    exact ⟨rep_fit p u h1, Nn r us' h2⟩
end
theorem Es {f : Nat} {fn : Func} {c : Code} {args : List PV} {S : PS} {out : POut} {S' : PS} (hf : Tryz.prog.funcs[f]? = some fn) (hname : (fn.name == "runtime.NumGoroutine") = false) (hb : fn.body = some c) (hn : args.length <= fn.ntmps) (hS : S'.boxes.length = S.boxes.length) (hT : S.toks.length <= S'.toks.length)
    (h : fitL args -> PW Tryz.prog fn.ntmps c (Q8 Tryz.prog fn out S') (Hj args) S) : Aw f args S out S' :=
  ⟨enters_of hf hname hb, fun K w vs hI hA => Aen hf hb hn hS hT (h (Nn _ _ hA)) K w vs hI hA⟩
structure Und (b : Bool) : Prop where
  ok : b = b
theorem Me (b : Bool) : Und b := ⟨rfl⟩
def Pt (d : Nat) (v : PV) (F : Nat -> PV) : Nat -> PV := fun t => bif Nat.beq t d then v else F t
theorem Hb {d : Nat} {v : PV} {F : Nat -> PV} (h : F d = v) : Pt d v F = F := by
  funext t
  unfold Pt
  cases e : Nat.beq t d with
  | false => rfl
  | true => rw [Nat.eq_of_beq_eq_true e]; exact h.symm
mutual
theorem lt_mono {n m n' m' : Nat} (hn : n <= n') (hm : m <= m') : ∀ p : PV, p.lt n m = true -> p.lt n' m' = true
  | .ptr id _, h => by simp only [PV.lt, Nat.blt_eq] at h |-; omega
  | .bsl _ id _ _ _, h => by simp only [PV.lt, Nat.blt_eq] at h |-; omega
  | .hd t _, h => by simp only [PV.lt, Nat.blt_eq] at h |-; omega
  | .agg l, h => by simp only [PV.lt] at h |-; exact Kv hn hm l h
  | .tup l, h => by simp only [PV.lt] at h |-; exact Kv hn hm l h
  | .fn _ l, h => by simp only [PV.lt] at h |-; exact Kv hn hm l h
  | .any, _ => rfl
  | .un, _ => rfl
  | .d _, _ => rfl
  | .ep _, _ => rfl
theorem Kv {n m n' m' : Nat} (hn : n <= n') (hm : m <= m') : ∀ l : List PV, PV.ltL n m l = true -> PV.ltL n' m' l = true
  | [], _ => rfl
  | p :: r, h => by
    simp only [PV.ltL, Bool.and_eq_true] at h |-
    exact ⟨lt_mono hn hm p h.1, Kv hn hm r h.2⟩
end
section
variable {N : Nat} {ops : Array Oper} {rest : List Oper} {o : Oper} {F : Nat -> PV} {S S' : PS} {q : WRes -> Prop} {C : Prop} {r : PV} {Q : Exit -> (Nat -> PV) -> PS -> Prop}
theorem Ph {j : Nat} {want b : Bool} {d : Nat} (ho : o.guard = some (j, want)) (hd : (ops[j]?).bind (·.dst) = some d) (hF : F d = .d (.v (.bool b))) (_ : Und b) (h1 : b = true -> WK Tryz.prog N ops (o :: rest) (Pt d (.d (.v (.bool true))) F) S q)
    (h0 : b = false -> WK Tryz.prog N ops (o :: rest) (Pt d (.d (.v (.bool false))) F) S q) : WK Tryz.prog N ops (o :: rest) F S q := by
  cases b with
  | true => have h := h1 rfl; rwa [Hb hF] at h
  | false => have h := h0 rfl; rwa [Hb hF] at h
theorem Ot {c : Operand} {x y : Code} (hc : evP F c = .d (.v (.bool true))) (hx : PW Tryz.prog N x Q F S) : PW Tryz.prog N (.cond c x y) Q F S := Ag2 hc (fun _ => hx) (fun h => by cases h)
theorem Or {c : Operand} {x y : Code} (hc : evP F c = .d (.v (.bool false))) (hy : PW Tryz.prog N y Q F S) : PW Tryz.prog N (.cond c x y) Q F S := Ag2 hc (fun h => by cases h) (fun _ => hy)
theorem pw_split {d : Nat} {x y : Code} {b : Bool} (hF : F d = .d (.v (.bool b))) (hx : b = true -> PW Tryz.prog N x Q (Pt d (.d (.v (.bool true))) F) S) (hy : b = false -> PW Tryz.prog N y Q (Pt d (.d (.v (.bool false))) F) S) : PW Tryz.prog N (.cond (.tmp d) x y) Q F S := by
  cases b with
  | true => have h := hx rfl; rw [Hb hF] at h; exact Ot hF h
  | false => have h := hy rfl; rw [Hb hF] at h; exact Or hF h
theorem V8 {x y : Code} {ι : Type} {Q' : Exit -> (Nat -> PV) -> PS -> Prop} (ok : ι -> Prop) (L : ι -> List (Nat × PV)) (Sx : ι -> PS) (hx : PW Tryz.prog N x (M5 (fun F' S' => ∃ i, ok i /\ Tq (L i) F' /\ S' = Sx i) Q) F S) (hy : ∀ i, ok i -> PW Tryz.prog N y Q' (fr (L i)) (Sx i)) :
    PW Tryz.prog N x (M5 (PW Tryz.prog N y Q') Q) F S := by
  refine hx.mono fun e F' S' h => ?_
  cases e with
  | normal =>
    obtain ⟨i, h1, h2, rfl⟩ := h
    exact Ag4 (L i) h2 (hy i h1)
  | ret => exact h
  | exit id => exact h
  | goto l => exact h
  | panic c => exact h
  | outgrown => exact h
variable {ch : Nat -> Bool} {U Ut : List Nat} {k : Nat} {bm : Bool} {D : List Nat}
theorem wa_ask {j : Nat} {want b : Bool} {d : Nat} (ho : o.guard = some (j, want)) (hd : (ops[j]?).bind (·.dst) = some d) (hF : F d = .d (.v (.bool b))) (_ : Und b) (h1 : b = true -> WA Tryz.prog N ops ch U Ut k (o :: rest) (Pt d (.d (.v (.bool true))) F) S bm D q)
    (h0 : b = false -> WA Tryz.prog N ops ch U Ut k (o :: rest) (Pt d (.d (.v (.bool false))) F) S bm D q) : WA Tryz.prog N ops ch U Ut k (o :: rest) F S bm D q := by
  cases b with
  | true => have h := h1 rfl; rwa [Hb hF] at h
  | false => have h := h0 rfl; rwa [Hb hF] at h
theorem wapB {r' : PV} (hg : Al ops F o = some true) (hp : (!ch k && To ops ch k) = true) (h : He tyi Ba F S o.op = some (C, r, S)) (hr : r = r') (hC : C) (kk : WA Tryz.prog N ops ch U Ut (k + 1) rest (Cd N o.dst r' F) S bm D q) : WA Tryz.prog N ops ch U Ut k (o :: rest) F S bm D q := by
  subst hr
  simp only [Bool.and_eq_true, Bool.not_eq_true'] at hp
  exact Wu hg hp.1 hp.2 (Fv Fj h hC) kk
theorem waf (hg : Al ops F o = some true) (hc : ch k = false) (h : ∀ S', Agree U Ut S S' -> Hd tyi Ba F S' o.op = some (C, r, S')) (hC : C) (kk : WA Tryz.prog N ops ch U Ut (k + 1) rest (Cd N o.dst r F) S bm D q) : WA Tryz.prog N ops ch U Ut k (o :: rest) F S bm D q :=
  Ah6 hg hc (fun S' ha => Hz Fj (h S' ha) hC) kk
theorem wac {S'' : PS} {r' : PV} (hg : Al ops F o = some true) (hc : ch k = true) (h : He tyi Ba F S o.op = some (C, r, S')) (hr : r = r') (hS : S' = S'') (hC : C) (ha : Agree U Ut S S'') (kk : WA Tryz.prog N ops ch U Ut (k + 1) rest (Cd N o.dst r' F) S'' false D q) : WA Tryz.prog N ops ch U Ut k (o :: rest) F S false D q := by
  subst hr; subst hS
  exact Aba hg hc (Fv Fj h hC) ha kk
def chN : Nat -> Bool := fun _ => false
theorem Aam {ops : Array Oper} {k : Nat} : To ops chN k = true := by
  unfold To
  split
  . simp [chN]
  . rfl
theorem wan (hg : Al ops F o = some true) (h : Hd tyi Ba F S o.op = some (C, r, S)) (hC : C) (kk : WA Tryz.prog N ops chN U Ut (k + 1) rest (Cd N o.dst r F) S bm D q) : WA Tryz.prog N ops chN U Ut k (o :: rest) F S bm D q :=
  Wu hg rfl Aam (Hz Fj h hC) kk
theorem wanB {r' : PV} (hg : Al ops F o = some true) (h : He tyi Ba F S o.op = some (C, r, S)) (hr : r = r') (hC : C) (kk : WA Tryz.prog N ops chN U Ut (k + 1) rest (Cd N o.dst r' F) S bm D q) : WA Tryz.prog N ops chN U Ut k (o :: rest) F S bm D q := by
  subst hr
  exact Wu hg rfl Aam (Fv Fj h hC) kk
theorem Tj {t : TypeId} {x y : Operand} {l : List (List DV)} {kd : IntKind} {j : Int} (e : List DV) (hg : Al ops F o = some true) (ho : o.op = .indexAddr t x y) (hk : (Ba t && Nat.beq (tyi t).kind 2) = true) (hx : S.toS (tyi t).ek (evP F x) = some l) (hy : evP F y = .d (.v (.int kd j)))
    (he : l[j.toNat]? = some e) (h0 : 0 <= j) (kk : WA Tryz.prog N ops chN U Ut (k + 1) rest (Cd N o.dst (.ep e) F) S bm D q) : WA Tryz.prog N ops chN U Ut k (o :: rest) F S bm D q := by
  simp only [Bool.and_eq_true] at hk
  exact Wu hg rfl Aam (Ji ho (Fj t hk.1) (Nat.eq_of_beq_eq_true hk.2) hx hy h0 he) kk
theorem wcn {c : Operand} {al : Array Operand} {ats : Array TypeId} {f : Nat} {caps args : List PV} (hD : Aw f args ⟨[], []⟩ (.ret r) ⟨[], []⟩) (hg : Al ops F o = some true) (ho : o.op = .call { callee := .value c, args := al, argTypes := ats }) (hc : evP F c = .fn f caps)
    (hlt : PV.ltL 0 0 args = true) (hlr : r.lt 0 0 = true) (ha : F7 S (al.toList.map (evP F) ++ caps) args) (kk : WA Tryz.prog N ops chN U Ut (k + 1) rest (Cd N o.dst r F) S bm D q) : WA Tryz.prog N ops chN U Ut k (o :: rest) F S bm D q := by
  have h := Jj ho hD.1 hc hlt ha hD.2
  rw [Mq r hlr] at h
  exact Wu hg rfl Aam h kk
theorem E4 {S S' : PS} : Agree [] [] S S' := ⟨by simp, by simp⟩
variable {c : Operand} {al : Array Operand} {ats : Array TypeId} {f : Nat} {caps args : List PV}
theorem Gh (hD : Aw f args ⟨[], []⟩ (.ret r) ⟨[], []⟩) (hg : Al ops F o = some true) (ho : o.op = .call { callee := .value c, args := al, argTypes := ats }) (hc : evP F c = .fn f caps)
    (hlt : PV.ltL 0 0 args = true) (hlr : r.lt 0 0 = true) (ha : F7 S (al.toList.map (evP F) ++ caps) args) (kk : WK Tryz.prog N ops rest (Cd N o.dst r F) S q) : WK Tryz.prog N ops (o :: rest) F S q := by
  have h := Jj ho hD.1 hc hlt ha hD.2
  rw [Mq r hlr] at h
  exact Eo hg h kk
theorem Ql {id : Nat} {c0 : List PV} (hbox : S.boxes[id]? = some c0) (hl : PV.ltL 0 0 c0 = true) : Passes S ⟨[c0], []⟩ [id] [] := by
  refine ⟨by simp, by simp, rfl, rfl, fun i j h => ?_, fun t j h => by simp at h, ?_⟩
  . cases i with
    | zero => simp at h; subst h; simp [hbox, Gw c0 hl]
    | succ i => simp at h
  . simpa using Kv (Nat.zero_le 1) (Nat.le_refl 0) c0 hl
theorem Ts {id : Nat} {c1 : List PV} (hl : PV.ltL 0 0 c1 = true) : S.after [id] [] ⟨[c1], []⟩ = S.setBox id c1 := by
  cases S; simp [PS.after, Pv, PS.setBox, Gw c1 hl]
theorem ops_box1 {id : Nat} {c0 c1 : List PV} (hD : Aw f args ⟨[c0], []⟩ (.ret r) ⟨[c1], []⟩) (ho : o.op = .call { callee := .value c, args := al, argTypes := ats }) (hc : evP F c = .fn f caps) (hbox : S.boxes[id]? = some c0) (hl0 : PV.ltL 0 0 c0 = true) (hl1 : PV.ltL 0 0 c1 = true) (hlr : r.lt 0 0 = true)
    (hlt : PV.ltL 1 0 args = true) (ha : F7 S (al.toList.map (evP F) ++ caps) (PV.renL (fbN [id]) (ftN [] S.toks.length) args)) : OpS Tryz.prog o F S r (S.setBox id c1) := by
  have h := Aai ho hD.1 hc (Ql hbox hl0) ha hlt rfl hD.2
  rwa [Mq r hlr, Ts hl1] at h
theorem opx_box1 {id : Nat} {c0 c1 : List PV} {x : Value} (hD : Aw f args ⟨[c0], []⟩ (.panic x) ⟨[c1], []⟩) (ho : o.op = .call { callee := .value c, args := al, argTypes := ats }) (hc : evP F c = .fn f caps) (hbox : S.boxes[id]? = some c0) (hl0 : PV.ltL 0 0 c0 = true) (hl1 : PV.ltL 0 0 c1 = true)
    (hlt : PV.ltL 1 0 args = true) (ha : F7 S (al.toList.map (evP F) ++ caps) (PV.renL (fbN [id]) (ftN [] S.toks.length) args)) : OpX Tryz.prog o F S x (S.setBox id c1) := by
  have h := Aak ho hD.1 hc (Ql hbox hl0) ha hlt rfl hD.2
  rwa [Ts hl1] at h
theorem wcb {id : Nat} {c0 c1 : List PV} (hD : Aw f args ⟨[c0], []⟩ (.ret r) ⟨[c1], []⟩) (hg : Al ops F o = some true) (ho : o.op = .call { callee := .value c, args := al, argTypes := ats }) (hc : evP F c = .fn f caps) (hbox : S.boxes[id]? = some c0) (hl0 : PV.ltL 0 0 c0 = true) (hl1 : PV.ltL 0 0 c1 = true) (hlr : r.lt 0 0 = true)
    (hlt : PV.ltL 1 0 args = true) (ha : F7 S (al.toList.map (evP F) ++ caps) (PV.renL (fbN [id]) (ftN [] S.toks.length) args)) (hS : S.setBox id c1 = S') (kk : WK Tryz.prog N ops rest (Cd N o.dst r F) S' q) : WK Tryz.prog N ops (o :: rest) F S q := by
  subst hS; exact Eo hg (ops_box1 hD ho hc hbox hl0 hl1 hlr hlt ha) kk
theorem wcbx {id : Nat} {c0 c1 : List PV} {x : Value} (hD : Aw f args ⟨[c0], []⟩ (.panic x) ⟨[c1], []⟩) (hg : Al ops F o = some true) (ho : o.op = .call { callee := .value c, args := al, argTypes := ats }) (hc : evP F c = .fn f caps) (hbox : S.boxes[id]? = some c0) (hl0 : PV.ltL 0 0 c0 = true) (hl1 : PV.ltL 0 0 c1 = true)
    (hlt : PV.ltL 1 0 args = true) (ha : F7 S (al.toList.map (evP F) ++ caps) (PV.renL (fbN [id]) (ftN [] S.toks.length) args)) (hS : S.setBox id c1 = S') (kk : q (.panic x S')) : WK Tryz.prog N ops (o :: rest) F S q := by
  subst hS; exact Tk hg (opx_box1 hD ho hc hbox hl0 hl1 hlt ha) kk
end
theorem Af5 {l : List PV} : NL l l := rfl
section
variable {N : Nat} {ops : Array Oper} {rest : List Oper} {o : Oper} {F : Nat -> PV} {S S' S'' : PS} {q : WRes -> Prop} {C : Prop} {r r' : PV} {Q : Exit -> (Nat -> PV) -> PS -> Prop} {ch : Nat -> Bool} {U Ut : List Nat} {k : Nat} {bm : Bool} {D : List Nat}
theorem q1 (kk : WK Tryz.prog N ops rest (Cd N o.dst r F) S' q) (hg : Al ops F o = some true := by exact rfl) (h : Hd tyi Ba F S o.op = some (C, r, S') := by exact rfl) (hC : C := by first | exact True.intro | (simp only [IntKind.lo, IntKind.hi]; omega) | omega | decide) : WK Tryz.prog N ops (o :: rest) F S q := wst hg h hC kk
theorem q2 (kk : WA Tryz.prog N ops chN U Ut (k + 1) rest (Cd N o.dst r F) S bm D q) (hg : Al ops F o = some true := by exact rfl) (h : Hd tyi Ba F S o.op = some (C, r, S) := by exact rfl) (hC : C := by first | exact True.intro | (simp only [IntKind.lo, IntKind.hi]; omega) | omega | decide) : WA Tryz.prog N ops chN U Ut k (o :: rest) F S bm D q := wan hg h hC kk
theorem q3 {c : Operand} {x y : Code} (hx : PW Tryz.prog N x Q F S) (hc : evP F c = .d (.v (.bool true)) := by exact rfl) : PW Tryz.prog N (.cond c x y) Q F S := Ot hc hx
theorem q4 {c : Operand} {x y : Code} (hx : PW Tryz.prog N y Q F S) (hc : evP F c = .d (.v (.bool false)) := by exact rfl) : PW Tryz.prog N (.cond c x y) Q F S := Or hc hx
theorem q5 (kk : WK Tryz.prog N ops rest (Cd N o.dst .un F) S q) (hg : Al ops F o = some false := by exact rfl) : WK Tryz.prog N ops (o :: rest) F S q := Mf hg kk
theorem q6 (kk : WA Tryz.prog N ops ch U Ut (k + 1) rest (Cd N o.dst .un F) S bm D q) (hg : Al ops F o = some false := by exact rfl) : WA Tryz.prog N ops ch U Ut k (o :: rest) F S bm D q := wa_skip hg kk
theorem q7 (kk : WK Tryz.prog N ops rest (Cd N o.dst r' F) S'' q) (hg : Al ops F o = some true := by exact rfl) (h : He tyi Ba F S o.op = some (C, r, S') := by exact rfl) (hr : r = r' := by first | (apply Ol rfl; repeat (first | exact Iq rfl | apply Af3 rfl | apply Af4 rfl | apply Af6 rfl)) | exact nr_d rfl | (dsimp only [List.length_cons, List.length_nil, List.length_append, Nat.reduceAdd]; rfl) | rfl) (hS : S' = S'' := by (apply ns_of rfl; repeat (first | exact Iq rfl | apply Af3 rfl | apply Af4 rfl | apply Af6 rfl | exact Af1 rfl | apply X0 rfl | exact Agc rfl | apply X5 rfl))) (hC : C := by first | exact True.intro | (simp only [IntKind.lo, IntKind.hi]; omega) | omega | decide) : WK Tryz.prog N ops (o :: rest) F S q := wstB hg h hr hS hC kk
theorem q7s (kk : WK Tryz.prog N ops rest (Cd N o.dst r' F) S'' q) (hg : Al ops F o = some true := by exact rfl) (h : He tyi Ba F S o.op = some (C, r, S') := by exact rfl) (hr : r = r' := by first | (apply Ol rfl; repeat (first | exact Iq rfl | apply Af3 rfl | apply Af4 rfl | apply Af6 rfl)) | exact nr_d rfl | (dsimp only [List.length_cons, List.length_nil, List.length_append, Nat.reduceAdd]; rfl) | rfl) (hS : S' = S'' := by (apply ns_of rfl; repeat (first | exact Iq rfl | apply Af3 rfl | apply Af4 rfl | apply Af6 rfl | exact Af1 rfl | apply X0 rfl | exact Agc rfl | apply X5 rfl | exact Af5))) (hC : C := by first | exact True.intro | (simp only [IntKind.lo, IntKind.hi]; omega) | omega | decide) : WK Tryz.prog N ops (o :: rest) F S q := wstB hg h hr hS hC kk
theorem q8 (kk : WA Tryz.prog N ops chN U Ut (k + 1) rest (Cd N o.dst r' F) S bm D q) (hg : Al ops F o = some true := by exact rfl) (h : He tyi Ba F S o.op = some (C, r, S) := by exact rfl) (hr : r = r' := by first | (apply Ol rfl; repeat (first | exact Iq rfl | apply Af3 rfl | apply Af4 rfl | apply Af6 rfl)) | exact nr_d rfl | (dsimp only [List.length_cons, List.length_nil, List.length_append, Nat.reduceAdd]; rfl) | rfl) (hC : C := by first | exact True.intro | (simp only [IntKind.lo, IntKind.hi]; omega) | omega | decide) : WA Tryz.prog N ops chN U Ut k (o :: rest) F S bm D q := wanB hg h hr hC kk
theorem q9 {id : Nat} {l : List Oper} (h : WA Tryz.prog N l.toArray chN [] [] 0 l F S false [] (Adg Q)) (hm : Tryz.prog.follows .mixedOrders = true := by exact rfl) (hB : Lp l.toArray chN = true := by kernel_rfl) : PW Tryz.prog N (.region id l.toArray true) Q F S := Eu chN [] [] hm hB h
theorem q15 {fn : Func} {e : Exit} {ps : List PV} (hr : r' = r) (he : e = .normal \/ e = .ret := by first | exact .inr rfl | exact .inl rfl) (hps : Wa F S fn.results.toList = some ps := by exact rfl)
    (hv : Tp ps = r' := by first | (apply Ol rfl; repeat (first | exact Iq rfl | apply Af3 rfl | apply Af4 rfl | apply Af6 rfl)) | (apply nr_tup rfl; repeat (first | exact Iq rfl | apply Af3 rfl | apply Af4 rfl | apply Af6 rfl)) | exact nr_d rfl | rfl) (hlt : r.lt S'.boxes.length S'.toks.length = true := by exact rfl)
    (hall : (S.boxes.take S'.boxes.length).all (fun c => PV.ltL S'.boxes.length S'.toks.length c) = true := by exact rfl) (hcut : S.cut S'.boxes.length S'.toks.length = S' := by exact rfl) : Q8 Tryz.prog fn (.ret r) S' e F S := fin hall hcut he hps hv hr hlt
theorem q16 {d : Nat} {x y : Code} {b : Bool} (hx : b = true -> PW Tryz.prog N x Q (Pt d (.d (.v (.bool true))) F) S) (hy : b = false -> PW Tryz.prog N y Q (Pt d (.d (.v (.bool false))) F) S) (hF : F d = .d (.v (.bool b)) := by exact rfl) : PW Tryz.prog N (.cond (.tmp d) x y) Q F S := pw_split hF hx hy
theorem q17 {j : Nat} {want b : Bool} {d : Nat} (h1 : b = true -> WK Tryz.prog N ops (o :: rest) (Pt d (.d (.v (.bool true))) F) S q) (h0 : b = false -> WK Tryz.prog N ops (o :: rest) (Pt d (.d (.v (.bool false))) F) S q) (ho : o.guard = some (j, want) := by exact rfl) (hd : (ops[j]?).bind (·.dst) = some d := by exact rfl) (hF : F d = .d (.v (.bool b)) := by exact rfl) (hu : Und b := by (fail_if_success (exact Me true)); (fail_if_success (exact Me false)); exact Me _) : WK Tryz.prog N ops (o :: rest) (F) S q := Ph ho hd hF hu h1 h0
theorem q18 {j : Nat} {want b : Bool} {d : Nat} (h1 : b = true -> WA Tryz.prog N ops ch U Ut k (o :: rest) (Pt d (.d (.v (.bool true))) F) S bm D q) (h0 : b = false -> WA Tryz.prog N ops ch U Ut k (o :: rest) (Pt d (.d (.v (.bool false))) F) S bm D q) (ho : o.guard = some (j, want) := by exact rfl) (hd : (ops[j]?).bind (·.dst) = some d := by exact rfl) (hF : F d = .d (.v (.bool b)) := by exact rfl) (hu : Und b := by (fail_if_success (exact Me true)); (fail_if_success (exact Me false)); exact Me _) : WA Tryz.prog N ops ch U Ut k (o :: rest) (F) S bm D q := wa_ask ho hd hF hu h1 h0
end
structure Hx (X : Prop) : Prop where
  out : X
theorem rl0 {G X : Prop} (h : X) (t : Hx X -> G := by (intro h; (first | refine q1 ?_ | refine q2 ?_ | refine Cq ?_ | refine Gp ?_ | refine Co ?_ | refine Bf ?_ | refine C7 ?_ | refine Ev ?_ | refine Fl ?_ | refine Et ?_ | refine q3 ?_ | refine q4 ?_ | refine q5 ?_ | refine q6 ?_ | refine q7 ?_ | refine q8 ?_ | refine q9 ?_ | refine q10 ?_ | refine q11 ?_ | refine q12 ?_ | refine q13 ?_ | refine q14 ?_ | refine q15 ?_ | fail); (repeat' (first | refine q1 ?_ | refine q2 ?_ | refine Cq ?_ | refine Gp ?_ | refine Co ?_ | refine Bf ?_ | refine C7 ?_ | refine Ev ?_ | refine Fl ?_ | refine Et ?_ | refine q3 ?_ | refine q4 ?_ | refine q5 ?_ | refine q6 ?_ | refine q7 ?_ | refine q8 ?_ | refine q9 ?_ | refine q10 ?_ | refine q11 ?_ | refine q12 ?_ | refine q13 ?_ | refine q14 ?_ | refine q15 ?_ | fail)); exact h.out)) : G := t ⟨h⟩
theorem rs0 {G X Y : Prop} (h1 : X) (h2 : Y) (t : Hx X -> Hx Y -> G := by (intro h1 h2; first | exact q17 h1.out h2.out | exact q18 h1.out h2.out | exact q16 h1.out h2.out | fail)) : G := t ⟨h1⟩ ⟨h2⟩
theorem rl1 {G X : Prop} (h : X) (t : Hx X -> G := by (intro h; (first | refine q1 ?_ | refine q2 ?_ | refine Cq ?_ | refine Gp ?_ | refine Co ?_ | refine Bf ?_ | refine C7 ?_ | refine Ev ?_ | refine Fl ?_ | refine Et ?_ | refine q3 ?_ | refine q4 ?_ | refine q5 ?_ | refine q6 ?_ | refine q7s ?_ | refine q8 ?_ | refine q9 ?_ | refine q10 ?_ | refine q11 ?_ | refine q12 ?_ | refine q13 ?_ | refine q14s ?_ | refine q15 ?_ | fail); (repeat' (first | refine q1 ?_ | refine q2 ?_ | refine Cq ?_ | refine Gp ?_ | refine Co ?_ | refine Bf ?_ | refine C7 ?_ | refine Ev ?_ | refine Fl ?_ | refine Et ?_ | refine q3 ?_ | refine q4 ?_ | refine q5 ?_ | refine q6 ?_ | refine q7s ?_ | refine q8 ?_ | refine q9 ?_ | refine q10 ?_ | refine q11 ?_ | refine q12 ?_ | refine q13 ?_ | refine q14s ?_ | refine q15 ?_ | fail)); exact h.out)) : G := t ⟨h⟩
theorem rs1 {G X Y : Prop} (h1 : X) (h2 : Y) (t : Hx X -> Hx Y -> G := by (intro h1 h2; first | exact q17 h1.out h2.out | exact q18 h1.out h2.out | exact q16 h1.out h2.out | fail)) : G := t ⟨h1⟩ ⟨h2⟩
theorem rl2 {G X : Prop} (h : X) (t : Hx X -> G := by (intro h; (first | refine q1 ?_ | refine q2 ?_ | refine Cq ?_ | refine Gp ?_ | refine Co ?_ | refine Bf ?_ | refine C7 ?_ | refine Ev ?_ | refine Fl ?_ | refine Et ?_ | refine q3 ?_ | refine q4 ?_ | refine q5 ?_ | refine q6 ?_ | refine q7s ?_ | refine q8 ?_ | refine q10 ?_ | refine q11 ?_ | refine q12 ?_ | refine q13 ?_ | refine q14s ?_ | refine q15 ?_ | fail); (repeat' (first | refine q1 ?_ | refine q2 ?_ | refine Cq ?_ | refine Gp ?_ | refine Co ?_ | refine Bf ?_ | refine C7 ?_ | refine Ev ?_ | refine Fl ?_ | refine Et ?_ | refine q3 ?_ | refine q4 ?_ | refine q5 ?_ | refine q6 ?_ | refine q7s ?_ | refine q8 ?_ | refine q10 ?_ | refine q11 ?_ | refine q12 ?_ | refine q13 ?_ | refine q14s ?_ | refine q15 ?_ | fail)); exact h.out)) : G := t ⟨h⟩
theorem rs2 {G X Y : Prop} (h1 : X) (h2 : Y) (t : Hx X -> Hx Y -> G := by (intro h1 h2; first | exact q17 h1.out h2.out | exact q18 h1.out h2.out | exact q16 h1.out h2.out | fail)) : G := t ⟨h1⟩ ⟨h2⟩
theorem rl3 {G X : Prop} (h : X) (t : Hx X -> G := by (intro h; (first | refine q1 ?_ | refine q2 ?_ | refine Cq ?_ | refine Gp ?_ | refine Co ?_ | refine Bf ?_ | refine Ev ?_ | refine Fl ?_ | refine Et ?_ | refine q3 ?_ | refine q4 ?_ | refine q5 ?_ | refine q6 ?_ | refine q7s ?_ | refine q8 ?_ | refine q10 ?_ | refine q11 ?_ | refine q12 ?_ | refine q13 ?_ | refine q14s ?_ | refine q15 ?_ | fail); (repeat' (first | refine q1 ?_ | refine q2 ?_ | refine Cq ?_ | refine Gp ?_ | refine Co ?_ | refine Bf ?_ | refine Ev ?_ | refine Fl ?_ | refine Et ?_ | refine q3 ?_ | refine q4 ?_ | refine q5 ?_ | refine q6 ?_ | refine q7s ?_ | refine q8 ?_ | refine q10 ?_ | refine q11 ?_ | refine q12 ?_ | refine q13 ?_ | refine q14s ?_ | refine q15 ?_ | fail)); exact h.out)) : G := t ⟨h⟩
theorem rs3 {G X Y : Prop} (h1 : X) (h2 : Y) (t : Hx X -> Hx Y -> G := by (intro h1 h2; first | exact q17 h1.out h2.out | exact q18 h1.out h2.out | exact q16 h1.out h2.out | fail)) : G := t ⟨h1⟩ ⟨h2⟩
theorem rl4 {G X : Prop} (h : X) (t : Hx X -> G := by (intro h; (first | refine q1 ?_ | refine q2 ?_ | refine Cq ?_ | refine Gp ?_ | refine Co ?_ | refine Bf ?_ | refine Ev ?_ | refine Fl ?_ | refine Et ?_ | refine q3 ?_ | refine q4 ?_ | refine q5 ?_ | refine q6 ?_ | refine q7 ?_ | refine q8 ?_ | refine q9 ?_ | refine q10 ?_ | refine q11 ?_ | refine q12 ?_ | refine q13 ?_ | refine q14 ?_ | refine q15 ?_ | fail); (repeat' (first | refine q1 ?_ | refine q2 ?_ | refine Cq ?_ | refine Gp ?_ | refine Co ?_ | refine Bf ?_ | refine Ev ?_ | refine Fl ?_ | refine Et ?_ | refine q3 ?_ | refine q4 ?_ | refine q5 ?_ | refine q6 ?_ | refine q7 ?_ | refine q8 ?_ | refine q9 ?_ | refine q10 ?_ | refine q11 ?_ | refine q12 ?_ | refine q13 ?_ | refine q14 ?_ | refine q15 ?_ | fail)); exact h.out)) : G := t ⟨h⟩
theorem rl5 {G X : Prop} (h : X) (t : Hx X -> G := by (intro h; (first | refine q1 ?_ | refine q2 ?_ | refine Cq ?_ | refine Gp ?_ | refine Co ?_ | refine Bf ?_ | refine C7 ?_ | refine Ev ?_ | refine Fl ?_ | refine Et ?_ | refine q3 ?_ | refine q4 ?_ | refine q5 ?_ | refine q6 ?_ | refine q7 ?_ | refine q8 ?_ | refine q9 ?_ | refine q10 ?_ | refine q11 ?_ | refine q12 ?_ | refine q13 ?_ | refine q14 ?_ | fail); (repeat' (first | refine q1 ?_ | refine q2 ?_ | refine Cq ?_ | refine Gp ?_ | refine Co ?_ | refine Bf ?_ | refine C7 ?_ | refine Ev ?_ | refine Fl ?_ | refine Et ?_ | refine q3 ?_ | refine q4 ?_ | refine q5 ?_ | refine q6 ?_ | refine q7 ?_ | refine q8 ?_ | refine q9 ?_ | refine q10 ?_ | refine q11 ?_ | refine q12 ?_ | refine q13 ?_ | refine q14 ?_ | fail)); exact h.out)) : G := t ⟨h⟩
end Go.Proofs.YtjagmmmcibdibaaGreatDoor
namespace Go.Proofs.YtjagmmmcibdibaaGreatDoor
open Go.RowKit
section
variable {P : Program} {N : Nat} {Q : Exit -> (Nat -> PV) -> PS -> Prop} {F : Nat -> PV} {S : PS}
theorem C8 {K K' : Kx} {S0 : PS} {w w' : World} {n m : Nat} (hI : Inv K S0 w) (hs : Step K K' w w') (hn : S0.boxes.length <= n) (hm : S0.toks.length <= m) : Step K (K'.cut n m) w w' := by
  refine ⟨hs.os, hs.tape, hs.output, hs.size, fun i b hb => ?_, fun b hb => hs.βnew b (List.mem_of_mem_take hb), hs.M, hs.T, fun t c hc => ?_, fun t' c' g lo' h8 h9 => hs.τnew t' c' g lo' (C9 h8).1 h9, hs.blocks, hs.cells⟩
  . show (K'.β.take _)[i]? = _
    have := (List.getElem?_eq_some_iff.1 hb).1
    rw [hI.lenβ] at this
    rw [List.getElem?_take, if_pos (by omega)]
    exact hs.β i b hb
  . obtain ⟨c', h8, h9⟩ := hs.τ t c hc
    refine ⟨c', ?_, h9⟩
    show (K'.τ.take _)[t]? = _
    have := (List.getElem?_eq_some_iff.1 hc).1
    rw [hI.lenτ] at this
    rw [List.getElem?_take, if_pos (by omega)]
    exact h8
def ltF (n m : Nat) (L : List (Nat × PV)) : Bool := L.all fun p => p.2.lt n m
theorem fr_cut {K : Kx} {w : World} {a : Act} {L : List (Nat × PV)} {n m : Nat} (h : Tq L F) (hl : ltF n m L = true) (hF : FrameRep K w N F a) : FrameRep (K.cut n m) w N (fr L) a := by
  have h1 := Mm h hF
  refine ⟨h1.size, fun t => ?_⟩
  have key : (fr L t).lt n m = true := by
    unfold fr
    clear h h1
    induction L with
    | nil => rfl
    | cons p r ih =>
      simp only [ltF, List.all_cons, Bool.and_eq_true] at hl
      simp only [Afj]
      cases e : Nat.beq t p.1 with
      | true => exact hl.1
      | false => exact ih hl.2
  exact Rep.cut _ _ key (h1.rep t)
theorem pw_loopC {c : Code} {ι : Type} (ok : ι -> Prop) (L : ι -> List (Nat × PV)) (Sx : ι -> PS) (μ : ι -> Nat) (i0 : ι) (h0 : ok i0) (hF0 : Tq (L i0) F) (hS0 : S = Sx i0)
    (round : ∀ i, ok i -> PW P N c (M5 (fun F' S' => ∃ j, ok j /\ μ j < μ i /\ Tq (L j) F' /\ S'.cut (Sx j).boxes.length (Sx j).toks.length = Sx j /\ (S'.boxes.take (Sx j).boxes.length).all (fun c => PV.ltL (Sx j).boxes.length (Sx j).toks.length c) = true /\ ltF (Sx j).boxes.length (Sx j).toks.length (L j) = true /\ (Sx i).boxes.length <= (Sx j).boxes.length /\ (Sx i).toks.length <= (Sx j).toks.length) Q) (fr (L i)) (Sx i)) : PW P N (.loop c) Q F S := by
  refine ⟨fun ro mm K w a hI hF => ?_⟩
  subst hS0
  let R : Act -> World -> Nat -> Prop := fun a' w' n => ∃ i K', μ i = n /\ ok i /\ Step K K' w w' /\ Inv K' (Sx i) w' /\ FrameRep K' w' N (fr (L i)) a' /\ a'.defers = a.defers
  have hmin : ∀ a' w', (∃ n, R a' w' n) -> ∃ n, R a' w' n /\ ∀ m, R a' w' m -> n <= m := fun a' w' h => least h
  let μ' : Act -> World -> Nat := fun a' w' => open Classical in if h : ∃ n, R a' w' n then Classical.choose (hmin a' w' h) else 0
  have hμ : ∀ a' w', (h : ∃ n, R a' w' n) -> R a' w' (μ' a' w') /\ ∀ m, R a' w' m -> μ' a' w' <= m := by
    intro a' w' h
    have : μ' a' w' = Classical.choose (hmin a' w' h) := dif_pos h
    rw [this]
    exact Classical.choose_spec (hmin a' w' h)
  refine wpIn_loop (fun a' w' => ∃ n, R a' w' n) μ' ⟨_, i0, K, rfl, h0, Step.refl K w, hI, Mm hF0 hF, rfl⟩ fun a' w' hR => ?_
  obtain ⟨⟨i, K', h1, h2, h3, h4, h5, h6⟩, _⟩ := hμ a' w' hR
  refine wpIn_mono ((round i h2).run ro mm K' w' a' h4 h5) fun e a2 w2 hq => ?_
  obtain ⟨K2, F2, S2, h7, h8, h9, h10, h11⟩ := hq
  cases e with
  | normal =>
    obtain ⟨j, hj, hlt, hL, hcut, hall, hlf, hb, ht⟩ := h11
    have h8' := h8.cut hall
    rw [hcut] at h8'
    have hR2 : R a2 w2 (μ j) := ⟨j, _, rfl, hj, h3.trans hI (C8 h4 h7 hb ht), h8', fr_cut hL hlf h9, h10.trans h6⟩
    exact ⟨⟨_, hR2⟩, Nat.lt_of_le_of_lt ((hμ a2 w2 ⟨_, hR2⟩).2 _ hR2) (by rw [<- h1]; exact hlt)⟩
  | ret => exact ⟨K2, F2, S2, h3.trans hI h7, h8, h9, h10.trans h6, h11⟩
  | exit id => exact ⟨K2, F2, S2, h3.trans hI h7, h8, h9, h10.trans h6, h11⟩
  | goto l => exact ⟨K2, F2, S2, h3.trans hI h7, h8, h9, h10.trans h6, h11⟩
  | panic c => exact ⟨K2, F2, S2, h3.trans hI h7, h8, h9, h10.trans h6, h11⟩
  | outgrown => exact ⟨K2, F2, S2, h3.trans hI h7, h8, h9, h10.trans h6, h11⟩
theorem Ag3 {c : Code} (t k : Nat) (e : TypeId) (hF : F t = .d (.v (.slice none 0 0))) (h : PW P N c Q (Pt t (.hd S.toks.length 0) F) (S.addTok ⟨0, k, [], e⟩)) : PW P N c Q F S := by
  refine ⟨fun ro mm K w a hI hFr => ?_⟩
  obtain ⟨K', h1, h2, h3⟩ := hI.mint k e
  refine wpIn_mono (h.run ro mm K' w a h1 ⟨hFr.size, fun t' => ?_⟩) fun e a2 w2 hq => ?_
  . unfold Pt
    cases hb : Nat.beq t' t with
    | true =>
      have := Nat.eq_of_beq_eq_true hb
      subst this
      have h4 := hFr.rep t'
      rw [hF] at h4
      rw [Cb h4]
      exact h3
    | false => exact Rep.step h2 _ _ (hFr.rep t')
  . exact hq.step hI h2
theorem Fc {t n k e : Nat} {l : List (List DV)} (h : S.toks[t]? = some ⟨n, k, l, e⟩) : S.toS k (.hd t n) = some l := by simp [PS.toS, h]
variable {o : Oper}
theorem G9 {t : TypeId} {x y : Operand} {I J : TyI} {l : List PV} {kd : IntKind} {j : Int} {p : PV} (ho : o.op = .index t x y) (hI : TyI.of P t = some I) (hk : I.kind = 3) (hJ : TyI.of P I.elem = some J) (hx : evP F x = .agg l) (hy : evP F y = .d (.v (.int kd j))) (h0 : 0 <= j) (h1 : j < I.len)
    (hp : (J.isRow = true /\ p = .agg ((l.drop (j.toNat * J.size)).take J.size) /\ j.toNat * J.size + J.size <= l.length) \/ (J.isRow = false /\ l[j.toNat * J.size]? = some p)) : OpS P o F S p S :=
  OpS.pure fun K w ρ hInv h => by
    have hx1 := h x (by simp [ho, Op.operands])
    have hy1 := h y (by simp [ho, Op.operands])
    rw [hx] at hx1
    rw [hy] at hy1
    have hy1 := Cb hy1
    simp only [Rep] at hx1
    obtain ⟨cs, h2, h3⟩ := hx1
    obtain ⟨i, d, z, hi, hu, hz, _, _, hd⟩ := TyI.inv hI
    rw [hk] at hd; simp at hd
    obtain ⟨rfl, ie, hie, hek⟩ := hd
    obtain ⟨hrow, hsize⟩ := TyI.row hJ
    rw [hie] at hsize
    have hisz : ie.size = J.size := by simpa using hsize
    cases hue : P.underlying I.elem with
    | none => rw [hue] at hrow; simp at hrow
    | some d =>
      rw [hue] at hrow
      rcases hp with ⟨hr, rfl, hle⟩ | ⟨hr, hp⟩
      . have hag : (isAgg I.elem).run P w = .ok true w := by
          have : d.isRow = true := by rw [show (J.kind == 3 || J.kind == 4) = true from hr] at hrow; simpa using hrow
          cases d <;> simp [TypeDesc.isRow] at this <;> simp [isAgg, underlying, program, go_sem, hue, Sem.run]
        refine ⟨.agg (cs.toArray.extract (j.toNat * J.size) (j.toNat * J.size + J.size)), ?_, ?_⟩
        . simp only [execOp, ho, h2, hy1, Instr.index, asIntOf, Sem.run_bind, Sem.run_pure, run_underlying hu, Result.andThen_ok, part, hag, sizeOf, typeInfo]
          simp [hie, hisz, h0, h1, go_sem, hag]
        . simp only [Rep]
          refine ⟨(cs.drop (j.toNat * J.size)).take J.size, ?_, (h3.drop _).take _⟩
          simp [List.extract_eq_take_drop]
      . have hag : (isAgg I.elem).run P w = .ok false w := by
          have : d.isRow = false := by rw [show (J.kind == 3 || J.kind == 4) = false from hr] at hrow; simpa using hrow
          cases d <;> simp [TypeDesc.isRow] at this <;> simp [isAgg, underlying, program, go_sem, hue, Sem.run]
        obtain ⟨u, h4, h5⟩ := Ap.get h3 hp
        refine ⟨u, ?_, h5⟩
        simp only [execOp, ho, h2, hy1, Instr.index, asIntOf, Sem.run_bind, Sem.run_pure, run_underlying hu, Result.andThen_ok, part, hag, sizeOf, typeInfo]
        simp [hie, hisz, h0, h1, go_sem, hag, h4]
end
section
variable {N : Nat} {ops : Array Oper} {rest : List Oper} {o : Oper} {F : Nat -> PV} {S S' : PS} {q : WRes -> Prop}
theorem Ww {t : TypeId} {x y : Operand} {tk n k e : Nat} {l news : List (List DV)} (hg : Al ops F o = some true) (ho : o.op = .call { callee := .builtin .append, args := #[x, y], argTypes := #[t, t] }) (hk : (Ba t && Nat.beq (tyi t).kind 2 && Nat.beq k (tyi t).ek && Nat.beq e (tyi t).elem) = true) (hx : evP F x = .hd tk n)
    (hT : S.toks[tk]? = some ⟨n, k, l, e⟩) (hy : S.toS (tyi t).ek (evP F y) = some news) (h1 : (l.length + news.length) * (tyi t).eb <= 140737488355328) (h2 : l.length + news.length <= 9223372036854775807) (hS : S.setTok tk ⟨n + 1, k, l ++ news, e⟩ = S') (kk : WK Tryz.prog N ops rest (Cd N o.dst (.hd tk (n + 1)) F) S' q) : WK Tryz.prog N ops (o :: rest) F S q := by
  subst hS
  simp only [Bool.and_eq_true] at hk
  exact Eo hg (J6 (T := ⟨n, k, l, e⟩) ho (Fj t hk.1.1.1) (Nat.eq_of_beq_eq_true hk.1.1.2) hx hT (Nat.eq_of_beq_eq_true hk.1.2) (Nat.eq_of_beq_eq_true hk.2) hy h1 h2) kk
theorem wiv {t : TypeId} {x y : Operand} {l : List PV} {kd : IntKind} {j : Int} (l' : List PV) (hg : Al ops F o = some true) (ho : o.op = .index t x y) (hk : (Ba t && Nat.beq (tyi t).kind 3 && Ba (tyi t).elem && (tyi (tyi t).elem).isRow) = true) (hx : evP F x = .agg l) (hy : evP F y = .d (.v (.int kd j))) (h0 : 0 <= j /\ j < (tyi t).len)
    (hl : (l.drop (j.toNat * (tyi (tyi t).elem).size)).take (tyi (tyi t).elem).size = l' /\ j.toNat * (tyi (tyi t).elem).size + (tyi (tyi t).elem).size <= l.length) (kk : WK Tryz.prog N ops rest (Cd N o.dst (.agg l') F) S q) : WK Tryz.prog N ops (o :: rest) F S q := by
  obtain ⟨rfl, hl⟩ := hl
  simp only [Bool.and_eq_true] at hk
  exact Eo hg (G9 ho (Fj t hk.1.1.1) (Nat.eq_of_beq_eq_true hk.1.1.2) (Fj _ hk.1.2) hx hy h0.1 h0.2 (.inl ⟨hk.2, rfl, hl⟩)) kk
end
end Go.Proofs.YtjagmmmcibdibaaGreatDoor
namespace Go.Proofs.YtjagmmmcibdibaaGreatDoor
open Go.RowKit
theorem Lt {f : Nat} {fn : Func} {c : Code} {args : List PV} {v : Value} (hf : Tryz.prog.funcs[f]? = some fn) (hname : (fn.name == "runtime.NumGoroutine") = false) (hb : fn.body = some c) (hv : v.oneCell' = true)
    (h : ∀ (K : Kx) (w : World) (vs : List Value), Fz K w -> Ap K w args vs -> Calls Tryz.prog f vs.toArray w fun e w' => e = .returned v /\ Below w.heap.size w w') : Aw f args ⟨[], []⟩ (.ret (.d (.v v))) ⟨[], []⟩ := by
  refine ⟨enters_of hf hname hb, fun K w vs hI hA => (h K w vs hI.fz hA).mono ?_⟩
  rintro e w' ⟨rfl, hB⟩
  obtain ⟨h1, h2⟩ := hI.below hB
  exact ⟨K, h2, h1, v, rfl, by simp only [Rep, Cj]; exact ⟨trivial, hv⟩⟩
end Go.Proofs.YtjagmmmcibdibaaGreatDoor
namespace Go.Proofs.YtjagmmmcibdibaaGreatDoor
inductive Ex where
  | mk (op n : Int) (name : ByteArray) (args : List Ex)
def Ex.op : Ex -> Int | .mk o _ _ _ => o
def Ex.n : Ex -> Int | .mk _ n _ _ => n
def Ex.name : Ex -> ByteArray | .mk _ _ s _ => s
def Ex.args : Ex -> List Ex | .mk _ _ _ l => l
def Ex.nil : Ex := .mk 0 0 ⟨#[]⟩ []
end Go.Proofs.YtjagmmmcibdibaaGreatDoor
namespace Go.Proofs.YtjagmmmcibdibaaGreatDoor
open Go.RowKit
mutual
def exD : Ex -> List DV
  | .mk o n s l => [.v (.int .i64 o), .v (.int .i64 n), .v (.string s), .sl 4 (Ic l)]
def Ic : List Ex -> List (List DV)
  | [] => []
  | x :: l => exD x :: Ic l
end
theorem Hn : ∀ l : List Ex, Ic l = l.map exD
  | [] => rfl
  | x :: l => by simp [Ic, Hn l]
theorem Ak {l : List Ex} {i : Nat} {x : Ex} (h : l[i]? = some x) : (Ic l)[((i : Nat) : Int).toNat]? = some [.v (.int .i64 x.op), .v (.int .i64 x.n), .v (.string x.name), .sl 4 (Ic x.args)] := by
  rw [Hn]; cases x; simp [h, exD, Ex.op, Ex.n, Ex.name, Ex.args]
theorem Bb (l : List Ex) : (Ic l).length = l.length := by rw [Hn]; simp
@[reducible] def exP (x : Ex) : PV := .agg [.d (.v (.int .i64 x.op)), .d (.v (.int .i64 x.n)), .d (.v (.string x.name)), .d (.sl 4 (Ic x.args))]
@[reducible] def An (n : Int) : PV := .d (.v (.int .i64 n))
@[reducible] def At (b : Bool) : PV := .d (.v (.bool b))
@[reducible] def Fi (s : ByteArray) : PV := .d (.v (.string s))
mutual
def Ex.same : Ex -> Ex -> Bool
  | .mk o n s l, .mk o' n' s' l' => decide (o = o') && decide (n = n') && decide (s = s') && Sn l l'
def Sn : List Ex -> List Ex -> Bool
  | [], [] => true
  | x :: l, y :: l' => x.same y && Sn l l'
  | _, _ => false
end
mutual
def Ex.hgt : Ex -> Nat
  | .mk _ _ _ l => Us l + 1
def Us : List Ex -> Nat
  | [] => 0
  | x :: l => max x.hgt (Us l)
end
theorem Rn : ∀ {l : List Ex} {x : Ex}, x ∈ l -> x.hgt <= Us l
  | y :: l, x, h => by
    rcases List.mem_cons.1 h with rfl | h
    . exact Nat.le_max_left _ _
    . exact Nat.le_trans (Rn h) (Nat.le_max_right _ _)
theorem Ga {x y : Ex} (h : y ∈ x.args) : y.hgt < x.hgt := by
  cases x; exact Nat.lt_succ_of_le (Rn h)
end Go.Proofs.YtjagmmmcibdibaaGreatDoor
namespace Go.Proofs.YtjagmmmcibdibaaGreatDoor
open Go.RowKit Go.ChangeShapes Go.ChangeAt Go.WideShapes
def Kz : Kx := ⟨[], [], fun _ => False, fun _ _ => False⟩
theorem Afe {W : World} : ∀ b hi, b < W.heap.size -> Kz.good W b hi := fun b hi h => ⟨h, by simp [Kz], by simp [Kz], by simp [Kz], by simp [Kz]⟩
theorem kz_inv {W : World} (hfz : ∀ p ∈ frozen, ∃ ty r, W.heap[p.1]? = some (.cells p.2 ty r)) : Inv Kz ⟨[], []⟩ W where
  lenβ := rfl
  lenτ := rfl
  box i b c h := by simp [Kz] at h
  nodup := List.nodup_nil
  βM b h := by simp [Kz] at h
  tok t T c h := by simp at h
  tokF t c g lo h := by simp [Kz] at h
  tokI t t' c c' g lo lo' h := by simp [Kz] at h
  tokH t c u h := by simp [Kz] at h
  Mlt b h := by simp [Kz] at h
  Tlt b lo h := by simp [Kz] at h
  fz p hp := ⟨hfz p hp, by simp [Kz], by simp [Kz]⟩
theorem Aff {f : Nat} {args : List PV} {W : World} {vs : List Value} (hD : Aw f args ⟨[], []⟩ (.ret (At true)) ⟨[], []⟩) (hfz : ∀ p ∈ frozen, ∃ ty r, W.heap[p.1]? = some (.cells p.2 ty r)) (hr : Ap Kz W args vs) :
    Calls Tryz.prog f vs.toArray W fun e W' => e = .returned (.bool true) /\ Below W.heap.size W W' := by
  refine (hD.2 Kz W vs (kz_inv hfz) hr).mono ?_
  rintro e W' ⟨K', hs, _, v, rfl, hv⟩
  rw [Cb hv]
  exact ⟨rfl, hs.os, hs.tape, hs.output, hs.size, fun k hk => hs.blocks k hk (by simp [Kz]) (by simp [Kz])⟩
section
variable {P : Program} {W : World} {H : Type} {enc : TypeId × Value -> H} {base : Nat} {spare : Nat -> Bool} {held : Bool} {r : Reach} {b0 : Nat} {ts : List TypeId} {t : TypeId} {v : Value} {d : DataW H} {p : List MemPlace}
theorem rd_arr {n : Nat} {e : TypeId} (hcl : Q9 P ts = true) (ht : ts.any (Nat.beq t) = true) (hu : P.underlying t = some (.array n e)) (hv : Value.okWide P W r b0 t v) (h : DataW.Trod enc P W base spare held t v d p) : ∃ n ds, Shp P n t ds /\ Rep Kz W (.agg (ds.map .d)) v := by
  simp only [Value.okWide, hu] at hv
  obtain ⟨cs, rfl, _⟩ := hv
  obtain ⟨fuel, hf⟩ := h
  obtain ⟨ds, h1, h2⟩ := Ag7 (K := Kz) hcl Afe fuel t _ _ (Nz ht) hf
  exact ⟨fuel, ds, h2, by simp only [Rep]; exact ⟨cs.toList, by simp, h1⟩⟩
theorem Aaq {e : TypeId} (hcl : Q9 P ts = true) (ht : ts.any (Nat.beq t) = true) (hu : P.underlying t = some (.slice e)) (hv : Value.okWide P W r b0 t v) (h : DataW.Trod enc P W base spare held t v d p) : ∃ n l, Rep Kz W (.d (.sl (P.cellsOf e) l)) v /\ ∀ x ∈ l, Shp P n e x := by
  obtain ⟨a, len, cap, rfl⟩ := okWide_slice hu hv
  obtain ⟨fuel, hf⟩ := h
  obtain ⟨ds, h1, h2⟩ := Ag7 (K := Kz) hcl Afe fuel t _ _ (Nz ht) hf
  cases fuel with
  | zero => exact h2.elim
  | succ n =>
    unfold Shp at h2
    rw [hu] at h2
    obtain ⟨l, rfl, _, h3⟩ := h2
    obtain ⟨u, us, h4, h5, h6⟩ := h1
    simp [Value.cells] at h4
    exact ⟨n, l, by rw [h4.1]; exact h5, h3⟩
variable {n : Nat} {ds : List DV}
theorem Sq {k : IntKind} (hu : P.underlying t = some (.int k)) (h : Shp P n t ds) : ∃ z, ds = [.v (.int k z)] /\ (Lit.int k z).wf = true := by
  cases n with
  | zero => exact h.elim
  | succ n => unfold Shp at h; rw [hu] at h; exact h
theorem shp_arr {m : Nat} {e : TypeId} (hu : P.underlying t = some (.array m e)) (h : Shp P n t ds) : ∃ k parts, n = k + 1 /\ ds = List.flatten parts /\ parts.length = m /\ ∀ p ∈ parts, Shp P k e p := by
  cases n with
  | zero => exact h.elim
  | succ n => unfold Shp at h; rw [hu] at h; obtain ⟨l, h1, h2, h3⟩ := h; exact ⟨n, l, rfl, h1, h2, h3⟩
theorem Afi {α : Type} {R : α -> Prop} (f : α -> List DV) : ∀ {l : List (List DV)}, (∀ x ∈ l, ∃ a, x = f a /\ R a) -> ∃ zs : List α, l = zs.map f /\ ∀ a ∈ zs, R a
  | [], _ => ⟨[], rfl, fun _ h => by cases h⟩
  | x :: l, h => by
    obtain ⟨a, rfl, ha⟩ := h x List.mem_cons_self
    obtain ⟨zs, rfl, has⟩ := Afi f (l := l) fun y hy => h y (List.mem_cons_of_mem _ hy)
    refine ⟨a :: zs, rfl, fun b hb => ?_⟩
    rcases List.mem_cons.1 hb with rfl | hb
    . exact ha
    . exact has b hb
end
theorem parts3 {parts : List (List DV)} (h : parts.length = 3) : ∃ a b c, parts = [a, b, c] := by
  match parts, h with
  | [a, b, c], _ => exact ⟨a, b, c, rfl⟩
theorem Ae4 {W : World} {l : List (String × DataW Unit)} (hL : laidMet Tryz.prog l W) (hm : ∃ nm d, (nm, d) ∈ l /\ d = Lib.tabData .u64 Lib.pow10Tab /\ Tryz.prog.globalNamed nm = some 1) : ∀ p ∈ frozen, ∃ ty r, W.heap[p.1]? = some (.cells p.2 ty r) := by
  intro p hp
  obtain rfl := List.mem_singleton.1 hp
  obtain ⟨nm, d, hm, rfl, hg0⟩ := hm
  obtain ⟨g, t, cs, fuel, q, hg, ht, hv, hd⟩ := Lib.laidMet.reads hL hm
  obtain rfl := Option.some.inj (hg0.symm.trans hg)
  obtain rfl := Option.some.inj ((show (Tryz.prog.globals[1]?).map (·.type) = some 261 by kernel_rfl).symm.trans ht)
  have hcs := Lib.cells_of_tab (t := 261) (e := 175) (n := 20) (k := .u64) (by kernel_rfl) (by kernel_rfl) (by kernel_rfl) (by kernel_rfl) hd
  unfold World.var? at hv
  rw [hg] at hv
  simp only [Option.bind_some] at hv
  split at hv
  . rename_i c ty r hh
    cases hv
    refine ⟨ty, r, ?_⟩
    rw [hh]
    have : cs = (Lib.pow10Tab.map fun z => Value.int .u64 z).toArray := by rw [<- hcs]
    rw [this]
  . cases hv
end Go.Proofs.YtjagmmmcibdibaaGreatDoor
namespace Go.Proofs.YtjagmmmcibdibaaGreatDoor
open Go.RowKit
def strE (s : ByteArray) : List DV := [.v (.string s)]
@[reducible] def Db (l : List ByteArray) : PV := .d (.sl 1 (l.map strE))
def Je (l : List ByteArray) (s : ByteArray) : Bool := l.any fun x => decide (x = s)
theorem Xy {α : Type} {f : α -> List DV} {l : List α} {i : Nat} {x : α} (h : l[i]? = some x) : (l.map f)[((i : Nat) : Int).toNat]? = some (f x) := by simp [h]
theorem Afr {l : List ByteArray} {s x : ByteArray} {i : Nat} (hx : l[i]? = some x) (h : Je (l.take i) s = false) : Je (l.take (i + 1)) s = decide (x = s) := by
  obtain ⟨hlt, rfl⟩ := List.getElem?_eq_some_iff.1 hx
  unfold Je at h |-
  rw [List.take_succ_eq_append_getElem hlt, List.any_append, h]; simp
def Dq (op : Int) : Int :=
  if op = 1 \/ op = 2 \/ op = 3 \/ op = 4 then 0 else if op = 5 \/ op = 6 then 1 else if 7 <= op /\ op <= 18 then 2 else if op = 19 then 3 else -1
end Go.Proofs.YtjagmmmcibdibaaGreatDoor
namespace Go.Proofs.YtjagmmmcibdibaaGreatDoor
open Go.RowKit
def Bi (op : Int) : Int := if op = 19 then 0 else if op = 18 then 1 else if op = 17 then 2 else if op = 6 then 3 else if 11 <= op /\ op <= 16 then 4 else if op = 7 \/ op = 8 then 5 else if op = 9 \/ op = 10 then 6 else if op = 5 then 7 else 8
def Ey (op : Int) : ByteArray :=
  if op = 5 \/ op = 8 then ⟨#[45]⟩ else if op = 6 then ⟨#[110, 111, 116]⟩ else if op = 7 then ⟨#[43]⟩ else if op = 9 then ⟨#[42]⟩ else if op = 10 then ⟨#[47]⟩ else if op = 11 then ⟨#[61]⟩ else if op = 12 then ⟨#[33, 61]⟩ else
  if op = 13 then ⟨#[60]⟩ else if op = 14 then ⟨#[60, 61]⟩ else if op = 15 then ⟨#[62]⟩ else if op = 16 then ⟨#[62, 61]⟩ else if op = 17 then ⟨#[97, 110, 100]⟩ else ⟨#[111, 114]⟩
end Go.Proofs.YtjagmmmcibdibaaGreatDoor
namespace Go.Proofs.YtjagmmmcibdibaaGreatDoor
open Go.RowKit
def H1 (op : Int) : Int := if op = 6 \/ op = 17 \/ op = 18 then 2 else 1
def isZ (op : Int) : Int := if op = 3 \/ op = 4 \/ op = 6 \/ (11 <= op /\ op <= 18) then 2 else 1
mutual
def A6 (vars : List ByteArray) : Ex -> Int
  | .mk o _ s l => if o = 2 /\ Je vars s = false then 0 else if o = 19 then (match Bm vars l with | [a, b, c] => if a ≠ 2 \/ b ≠ c then 0 else b | _ => 0) else if (Bm vars l).all (· == H1 o) then isZ o else 0
def Bm (vars : List ByteArray) : List Ex -> List Int
  | [] => []
  | x :: l => A6 vars x :: Bm vars l
end
mutual
def Ex.fits : Ex -> Bool
  | .mk o _ _ l => decide ((l.length : Int) = Dq o) && Xs l
def Xs : List Ex -> Bool
  | [] => true
  | x :: l => x.fits && Xs l
end
theorem Ja (vars : List ByteArray) (x : Ex) : A6 vars x = if x.op = 2 /\ Je vars x.name = false then 0 else if x.op = 19 then (match Bm vars x.args with | [a, b, c] => if a ≠ 2 \/ b ≠ c then 0 else b | _ => 0) else if (Bm vars x.args).all (· == H1 x.op) then isZ x.op else 0 := by
  cases x; rfl
theorem Ij {x : Ex} (h : x.fits = true) : (x.args.length : Int) = Dq x.op /\ Xs x.args = true := by
  cases x; simpa [Ex.fits, Ex.args, Ex.op] using h
theorem Ui : ∀ {l : List Ex}, Xs l = true -> ∀ x ∈ l, x.fits = true
  | y :: l, h, x, hx => by
    simp only [Xs, Bool.and_eq_true] at h
    rcases List.mem_cons.1 hx with rfl | hx
    . exact h.1
    . exact Ui h.2 x hx
theorem fits_arg {x y : Ex} (h : x.fits = true) (hy : y ∈ x.args) : y.fits = true := Ui (Ij h).2 y hy
theorem Lu (vars : List ByteArray) : ∀ l : List Ex, Bm vars l = l.map (A6 vars)
  | [] => rfl
  | x :: l => by simp [Bm, Lu vars l]
theorem args3 {x : Ex} (h : x.fits = true) (ho : x.op = 19) : ∃ a b c, x.args = [a, b, c] := by
  have := (Ij h).1
  rw [ho, show Dq 19 = 3 from rfl] at this
  match e : x.args, this with
  | [a, b, c], _ => exact ⟨a, b, c, rfl⟩
  | [], h => simp at h
  | [_], h => simp at h
  | [_, _], h => simp at h
  | _ :: _ :: _ :: _ :: _, h => simp at h; omega
end Go.Proofs.YtjagmmmcibdibaaGreatDoor
namespace Go.Proofs.YtjagmmmcibdibaaGreatDoor
open Go.RowKit
def opTabP : List (Int × Int × Int × Int × ByteArray) :=
  [(0, 0, 0, 0, ⟨#[]⟩), (0, 0, 1, 8, ⟨#[]⟩), (0, 0, 1, 8, ⟨#[]⟩), (0, 0, 2, 8, ⟨#[116, 114, 117, 101]⟩), (0, 0, 2, 8, ⟨#[102, 97, 108, 115, 101]⟩), (1, 1, 1, 7, ⟨#[45]⟩), (1, 2, 2, 3, ⟨#[110, 111, 116]⟩),
   (2, 1, 1, 5, ⟨#[43]⟩), (2, 1, 1, 5, ⟨#[45]⟩), (2, 1, 1, 6, ⟨#[42]⟩), (2, 1, 1, 6, ⟨#[47]⟩), (2, 1, 2, 4, ⟨#[61]⟩), (2, 1, 2, 4, ⟨#[33, 61]⟩), (2, 1, 2, 4, ⟨#[60]⟩), (2, 1, 2, 4, ⟨#[60, 61]⟩), (2, 1, 2, 4, ⟨#[62]⟩), (2, 1, 2, 4, ⟨#[62, 61]⟩),
   (2, 2, 2, 2, ⟨#[97, 110, 100]⟩), (2, 2, 2, 1, ⟨#[111, 114]⟩), (3, 0, 0, 0, ⟨#[105, 102]⟩)]
@[reducible] def opP (o : Int × Int × Int × Int × ByteArray) : List PV := [An o.1, An o.2.1, An o.2.2.1, An o.2.2.2.1, Fi o.2.2.2.2]
def opZ (op : Int) : Int × Int × Int × Int × ByteArray := (opTabP[op.toNat]?).getD (0, 0, 0, 0, ⟨#[]⟩)
def opsL : List PV := opTabP.flatMap opP
theorem L0 {op : Int} (h1 : 1 <= op) (h2 : op <= 19) : op = 1 \/ op = 2 \/ op = 3 \/ op = 4 \/ op = 5 \/ op = 6 \/ op = 7 \/ op = 8 \/ op = 9 \/ op = 10 \/ op = 11 \/ op = 12 \/ op = 13 \/ op = 14 \/ op = 15 \/ op = 16 \/ op = 17 \/ op = 18 \/ op = 19 := by omega
theorem opsL_row {op : Int} (h1 : 1 <= op) (h2 : op <= 19) : (opsL.drop (op.toNat * 5)).take 5 = opP (opZ op) /\ op.toNat * 5 + 5 <= opsL.length := by
  rcases L0 h1 h2 with rfl | rfl | rfl | rfl | rfl | rfl | rfl | rfl | rfl | rfl | rfl | rfl | rfl | rfl | rfl | rfl | rfl | rfl | rfl <;> exact ⟨rfl, Nat.le_of_ble_eq_true rfl⟩
set_option maxRecDepth 20000 in
theorem Vs : Aw 86 [] ⟨[], []⟩ (.ret (.agg opsL)) ⟨[], []⟩ := by
  refine Af Tryz.func86 rfl rfl (Nat.le_of_ble_eq_true rfl) rfl (Nat.le_refl _) ?_
  repeat' (first | refine rl0 ?_ | refine rs0 (fun h => ?_) (fun h => ?_) | fail)
  rfl
def H8 (op : Int) : Bool := decide (1 <= op) && decide (op <= 19)
theorem Zx (op : Int) : Aw 55 [An op] ⟨[], []⟩ (.ret (.tup [.agg (opP (bif H8 op then opZ op else (0, 0, 0, 0, ⟨#[]⟩))), At (H8 op)])) ⟨[], []⟩ := by
  refine Af Tryz.func55 rfl rfl (Nat.le_of_ble_eq_true rfl) rfl (Nat.le_refl _) ?_
  repeat' (first | refine rl0 ?_ | refine rs0 (fun h => ?_) (fun h => ?_) | fail)
  . rw [show H8 op = false from by (have h' := h; simp at h'; simp [H8]; omega)]; rfl
  . rw [show H8 op = false from by (have h' := h; simp at h'; simp [H8]; omega)]; rfl
  . have h1 : 1 <= op /\ op <= 19 := by simp_all
    refine Gh Vs rfl rfl rfl rfl rfl (by repeat (first | exact Ae | refine Ab (Ac _) ?_)) ?_
    repeat' (first | refine rl0 ?_ | refine rs0 (fun h => ?_) (fun h => ?_) | fail)
    refine wiv (opP (opZ op)) rfl rfl rfl rfl rfl ⟨by omega, ?_⟩ (opsL_row h1.1 h1.2) ?_
    . show op < 20; omega
    repeat' (first | refine rl0 ?_ | refine rs0 (fun h => ?_) (fun h => ?_) | fail)
    rw [show H8 op = true from by simp [H8, h1]]; rfl
end Go.Proofs.YtjagmmmcibdibaaGreatDoor
namespace Go.Proofs.YtjagmmmcibdibaaGreatDoor
open Go.RowKit
def Uu : List ByteArray -> ByteArray -> Int
  | [], _ => -1
  | x :: r, s => if x = s then 0 else if Uu r s < 0 then -1 else Uu r s + 1
theorem Zr : ∀ {l : List ByteArray} {s : ByteArray} {i : Nat}, l[i]? = some s -> Je (l.take i) s = false -> Uu l s = i
  | [], s, i, h, _ => by simp at h
  | x :: r, s, 0, h, _ => by simp at h; simp [Uu, h]
  | x :: r, s, i + 1, h, hm => by
    simp only [List.getElem?_cons_succ] at h
    simp only [List.take_succ_cons, Je, List.any_cons, Bool.or_eq_false_iff] at hm
    have h1 := Zr h hm.2
    have h2 : x ≠ s := by simpa using hm.1
    simp only [Uu, if_neg h2, h1]
    rw [if_neg (by omega)]; omega
theorem Uv : ∀ {l : List ByteArray} {s : ByteArray}, Je l s = false -> Uu l s = -1
  | [], s, _ => rfl
  | x :: r, s, hm => by
    simp only [Je, List.any_cons, Bool.or_eq_false_iff] at hm
    have h2 : x ≠ s := by simpa using hm.1
    simp [Uu, if_neg h2, Uv hm.2]
theorem Zs (l : List ByteArray) (s : ByteArray) : Je l s = decide (0 <= Uu l s) := by
  induction l with
  | nil => rfl
  | cons x r ih =>
    simp only [Je, List.any_cons, Uu]
    by_cases h : x = s
    . simp [h]
    . simp only [h, decide_false, Bool.false_or, if_false]
      show Je r s = _
      rw [ih]
      by_cases h2 : Uu r s < 0
      . simp [h2]
      . simp [h2]; omega
theorem Zt (l : List ByteArray) (s : ByteArray) : Aw 59 [Db l, Fi s] ⟨[], []⟩ (.ret (An (Uu l s))) ⟨[], []⟩ := by
  refine Es Tryz.func59 rfl rfl (Nat.le_of_ble_eq_true rfl) rfl (Nat.le_refl _) ?_
  intro hf
  have hl : l.length <= 9223372036854775807 := by have := hf.1; simpa [fitP] using this
  repeat' (first | refine rl0 ?_ | refine rs0 (fun h => ?_) (fun h => ?_) | fail)
  refine Ca (ι := Nat) (ok := fun i => i <= l.length /\ Je (l.take i) s = false) (L := fun i => [(0, Db l), (1, Fi s), (7, An (l.map strE).length), (8, An i)]) (Sx := fun _ => ⟨[], []⟩) (μ := fun i => l.length - i) 0 ⟨Nat.zero_le _, by simp [Je]⟩ (by repeat (first | exact Ag | refine Aa rfl ?_)) rfl ?_
  rintro i ⟨hi, hm⟩
  repeat' (first | refine rl0 ?_ | refine rs0 (fun h => ?_) (fun h => ?_) | fail)
  . have hlt : i < l.length := by simpa using h
    obtain ⟨x, hx⟩ : ∃ x, l[i]? = some x := ⟨_, List.getElem?_eq_getElem hlt⟩
    refine wix _ rfl rfl rfl rfl rfl (Xy hx) (by omega) ?_
    repeat' (first | refine rl0 ?_ | refine rs0 (fun h => ?_) (fun h => ?_) | fail)
    . obtain rfl : s = x := by simpa using h
      rw [Zr hx hm]
    . exact ⟨i + 1, ⟨by omega, by rw [Afr hx hm]; simp at h |-; exact fun e => h e.symm⟩, by omega, (by repeat (first | exact Ag | refine Aa rfl ?_)), rfl⟩
  . rw [List.take_of_length_le (by simp at h; omega)] at hm
    rw [Uv hm]
theorem J3 (l : List ByteArray) (s : ByteArray) : Aw 41 [Db l, Fi s] ⟨[], []⟩ (.ret (At (Je l s))) ⟨[], []⟩ := by
  refine Af Tryz.func41 rfl rfl (Nat.le_of_ble_eq_true rfl) rfl (Nat.le_refl _) ?_
  repeat' (first | refine rl0 ?_ | refine rs0 (fun h => ?_) (fun h => ?_) | fail)
  refine Gh (Zt l s) rfl rfl rfl rfl rfl (by repeat (first | exact Ae | refine Ab (Ac _) ?_)) ?_
  repeat' (first | refine rl0 ?_ | refine rs0 (fun h => ?_) (fun h => ?_) | fail)
  rw [Zs]
@[reducible] def Dv (l : List Int) : PV := .d (.sl 1 (l.map fun n => [.v (.int .i64 n)]))
theorem Ah2 (o : Int × Int × Int × Int × ByteArray) (t : Int) : Aw 57 [An t, .ptr 0 0] ⟨[opP o], []⟩ (.ret (At (!decide (t = o.2.1)))) ⟨[opP o], []⟩ := by
  refine Af Tryz.func57 rfl rfl (Nat.le_of_ble_eq_true rfl) rfl (Nat.le_refl _) ?_
  repeat' (first | refine rl0 ?_ | refine rs0 (fun h => ?_) (fun h => ?_) | fail)
  rfl
def idxN (l : List Int) (n : Int) : Int := match l.findIdx? (fun t => !decide (t = n)) with | some i => i | none => -1
theorem Ml {α : Type} {p : α -> Bool} {l : List α} {i : Nat} {x : α} (hx : l[i]? = some x) (hm : (l.take i).any p = false) (hp : p x = true) : l.findIdx? p = some i := by
  rw [List.findIdx?_eq_some_iff_getElem]
  obtain ⟨hlt, rfl⟩ := List.getElem?_eq_some_iff.1 hx
  refine ⟨hlt, hp, fun j hj => ?_⟩
  rw [List.any_eq_false] at hm
  exact hm _ (List.mem_take_iff_getElem.2 ⟨j, by omega, rfl⟩)
theorem Y2 {α : Type} {p : α -> Bool} {l : List α} {i : Nat} {x : α} (hx : l[i]? = some x) (hm : (l.take i).any p = false) (hp : p x = false) : (l.take (i + 1)).any p = false := by
  obtain ⟨hlt, rfl⟩ := List.getElem?_eq_some_iff.1 hx
  rw [List.take_succ_eq_append_getElem hlt, List.any_append, hm]; simp [hp]
theorem Uw (o : Int × Int × Int × Int × ByteArray) (l : List Int) : Aw 87 [Dv l, .fn 57 [.ptr 0 0]] ⟨[opP o], []⟩ (.ret (An (idxN l o.2.1))) ⟨[opP o], []⟩ := by
  refine Es Tryz.func87 rfl rfl (Nat.le_of_ble_eq_true rfl) rfl (Nat.le_refl _) ?_
  intro hf
  have hl : l.length <= 9223372036854775807 := by have := hf.1; simpa [fitP] using this
  repeat' (first | refine rl0 ?_ | refine rs0 (fun h => ?_) (fun h => ?_) | fail)
  refine Ca (ι := Nat) (ok := fun i => i <= l.length /\ (l.take i).any (fun t => !decide (t = o.2.1)) = false) (L := fun i => [(0, Dv l), (1, .fn 57 [.ptr 0 0]), (7, An (l.map fun n => [DV.v (.int .i64 n)]).length), (8, An i)]) (Sx := fun _ => ⟨[opP o], []⟩) (μ := fun i => l.length - i) 0 ⟨Nat.zero_le _, by simp⟩ (by repeat (first | exact Ag | refine Aa rfl ?_)) rfl ?_
  rintro i ⟨hi, hm⟩
  repeat' (first | refine rl0 ?_ | refine rs0 (fun h => ?_) (fun h => ?_) | fail)
  . have hlt : i < l.length := by simpa using h
    obtain ⟨x, hx⟩ : ∃ x, l[i]? = some x := ⟨_, List.getElem?_eq_getElem hlt⟩
    refine wix _ rfl rfl rfl rfl rfl (Xy hx) (by omega) ?_
    repeat' (first | refine rl0 ?_ | refine rs0 (fun h => ?_) (fun h => ?_) | fail)
    refine wcb (Ah2 o x) rfl rfl rfl rfl rfl rfl rfl rfl (by repeat (first | exact Ae | refine Ab (Ac _) ?_)) rfl ?_
    repeat' (first | refine rl0 ?_ | refine rs0 (fun h => ?_) (fun h => ?_) | fail)
    . rw [show idxN l o.2.1 = i from by unfold idxN; rw [Ml hx hm h]]
    . exact ⟨i + 1, ⟨by omega, Y2 hx hm h⟩, by omega, (by repeat (first | exact Ag | refine Aa rfl ?_)), rfl⟩
  . rw [List.take_of_length_le (by simp at h; omega)] at hm
    rw [show idxN l o.2.1 = -1 from by unfold idxN; rw [List.findIdx?_eq_none_iff.2 (by rw [List.any_eq_false] at hm; intro x hx; simpa using hm x hx)]]
theorem Ig (o : Int × Int × Int × Int × ByteArray) (l : List Int) : Aw 56 [Dv l, .fn 57 [.ptr 0 0]] ⟨[opP o], []⟩ (.ret (At (l.any fun t => !decide (t = o.2.1)))) ⟨[opP o], []⟩ := by
  refine Af Tryz.func56 rfl rfl (Nat.le_of_ble_eq_true rfl) rfl (Nat.le_refl _) ?_
  repeat' (first | refine rl0 ?_ | refine rs0 (fun h => ?_) (fun h => ?_) | fail)
  refine wcb (Uw o l) rfl rfl rfl rfl rfl rfl rfl rfl (by repeat (first | exact Ae | refine Ab (Ac _) ?_)) rfl ?_
  repeat' (first | refine rl0 ?_ | refine rs0 (fun h => ?_) (fun h => ?_) | fail)
  congr 4
  unfold idxN
  cases e : l.findIdx? (fun t => !decide (t = o.2.1)) with
  | none =>
    rw [List.findIdx?_eq_none_iff] at e
    symm; simp only [Int.reduceNeg, Int.reduceLE, decide_false]
    rw [List.any_eq_false]; intro x hx; rw [e x hx]; simp
  | some i =>
    rw [List.findIdx?_eq_some_iff_getElem] at e
    obtain ⟨hlt, h1, _⟩ := e
    have : (0 : Int) <= (i : Int) := by omega
    simp only [this, decide_true]
    exact (List.any_eq_true.2 ⟨_, List.getElem_mem hlt, h1⟩).symm
end Go.Proofs.YtjagmmmcibdibaaGreatDoor
namespace Go.Proofs.YtjagmmmcibdibaaGreatDoor
open Go.RowKit
theorem Afc {l : List Int} {i : Nat} {n : Int} (h : l[i]? = some n) : (l.take i).map (fun n => [DV.v (.int .i64 n)]) ++ [[.v (.int .i64 n)]] = (l.take (i + 1)).map (fun n => [DV.v (.int .i64 n)]) := by
  obtain ⟨hlt, rfl⟩ := List.getElem?_eq_some_iff.1 h
  rw [List.take_succ_eq_append_getElem hlt, List.map_append]; rfl
theorem P5 {x : Ex} (h : x.fits = true) : 1 <= x.op /\ x.op <= 19 := by
  have := (Ij h).1
  unfold Dq at this
  repeat' split at this
  all_goals omega
theorem opZ_want {op : Int} (h1 : 1 <= op) (h2 : op <= 19) (h : op ≠ 19) : (opZ op).2.1 = H1 op \/ (Dq op = 0) := by
  rcases L0 h1 h2 with rfl | rfl | rfl | rfl | rfl | rfl | rfl | rfl | rfl | rfl | rfl | rfl | rfl | rfl | rfl | rfl | rfl | rfl | rfl <;> first | exact .inl rfl | exact .inr rfl | exact absurd rfl h
theorem opZ_is {op : Int} (h1 : 1 <= op) (h2 : op <= 19) (h : op ≠ 19) : (opZ op).2.2.1 = isZ op := by
  rcases L0 h1 h2 with rfl | rfl | rfl | rfl | rfl | rfl | rfl | rfl | rfl | rfl | rfl | rfl | rfl | rfl | rfl | rfl | rfl | rfl | rfl <;> first | rfl | exact absurd rfl h
theorem W7 (l : List Int) (n : Int) : l.any (fun t => !decide (t = n)) = !l.all (· == n) := by
  induction l with
  | nil => rfl
  | cons a r ih => simp only [ih, List.any_cons, List.all_cons]; cases (r.all fun x => x == n) <;> by_cases h : a = n <;> simp [h]
theorem Ed (vars : List ByteArray) (l : List Ex) : (Bm vars l).length = l.length := by rw [Lu]; simp
theorem Na {vars : List ByteArray} {x : Ex} (h : x.fits = true) (h19 : x.op ≠ 19) : (Bm vars x.args).any (fun t => !decide (t = (opZ x.op).2.1)) = !(Bm vars x.args).all (· == H1 x.op) := by
  have hk := P5 h
  rcases opZ_want hk.1 hk.2 h19 with e | e
  . rw [e, W7]
  . have hl := (Ij h).1
    rw [e] at hl
    have : x.args = [] := List.eq_nil_of_length_eq_zero (by omega)
    rw [this]; rfl
theorem Ru {l : List Ex} {i : Nat} (hi : i <= l.length) (h : decide ((i : Int) < ((Ic l).length : Int)) = false) : i = l.length := by
  rw [Bb] at h; simp at h; omega
set_option maxHeartbeats 1000000 in
theorem Ll (vars : List ByteArray) : ∀ (n : Nat) (x : Ex), x.hgt <= n -> x.fits = true -> Aw 27 [exP x, Db vars] ⟨[], []⟩ (.ret (An (A6 vars x))) ⟨[], []⟩ := by
  intro n
  induction n with
  | zero => intro a h; cases a; simp [Ex.hgt] at h
  | succ n ih =>
    intro x hn hx
    refine Es Tryz.func27 rfl rfl (Nat.le_of_ble_eq_true rfl) rfl (Nat.le_refl _) ?_
    intro hf
    have hfit : x.args.length <= 9223372036854775807 := by rw [<- Bb]; exact hf.1.2.2.2.1
    have hk := P5 hx
    have hb : H8 x.op = true := by simp [H8, hk]
    have hsz : x.args.length <= 3 := by
      have := (Ij hx).1
      unfold Dq at this
      repeat' split at this
      all_goals omega
    repeat' (first | refine rl0 ?_ | refine rs0 (fun h => ?_) (fun h => ?_) | fail)
    have hd := Zx x.op
    rw [hb] at hd
    refine Gh hd rfl rfl rfl rfl rfl (by repeat (first | exact Ae | refine Ab (Ac _) ?_)) ?_
    repeat' (first | refine rl0 ?_ | refine rs0 (fun h => ?_) (fun h => ?_) | fail)
    refine Ag3 7 1 3 rfl ?_
    refine pw_loopC (ι := Nat) (ok := fun i => i <= x.args.length) (L := fun i => [(1, Db vars), (2, .ptr 0 0), (5, .ptr 1 0), (7, .hd 0 i), (17, .d (.sl 4 (Ic x.args))), (18, An (Ic x.args).length), (19, An i)])
      (Sx := fun i => ⟨[(exP x).parts, opP (opZ x.op)], [⟨i, 1, ((Bm vars x.args).take i).map (fun n => [.v (.int .i64 n)]), 3⟩]⟩) (μ := fun i => x.args.length - i) 0 (Nat.zero_le _) (by repeat (first | exact Ag | refine Aa rfl ?_)) rfl ?_
    rintro i hi
    repeat' (first | refine rl0 ?_ | refine rs0 (fun h => ?_) (fun h => ?_) | fail)
    . have hlt : i < x.args.length := by rw [Bb] at h; simpa using h
      obtain ⟨y, hy⟩ : ∃ y, x.args[i]? = some y := ⟨_, List.getElem?_eq_getElem hlt⟩
      refine wix _ rfl rfl rfl rfl rfl (Ak hy) (by omega) ?_
      repeat' (first | refine rl0 ?_ | refine rs0 (fun h => ?_) (fun h => ?_) | fail)
      have hy2 := List.mem_of_getElem? hy
      have hy3 : (Bm vars x.args)[i]? = some (A6 vars y) := by rw [Lu]; simp [hy]
      refine Gh (ih y (by have := Ga hy2; omega) (fits_arg hx hy2)) rfl rfl rfl rfl rfl (by repeat (first | exact Ae | refine Ab (Ac _) ?_)) ?_
      repeat' (first | refine rl0 ?_ | refine rs0 (fun h => ?_) (fun h => ?_) | fail)
      refine Ww (news := [[.v (.int .i64 (A6 vars y))]]) (S' := ⟨[(exP x).parts, opP (opZ x.op), (exP y).parts], [⟨i + 1, 1, ((Bm vars x.args).take (i + 1)).map (fun n => [.v (.int .i64 n)]), 3⟩]⟩) rfl rfl rfl rfl rfl rfl ?_ ?_ ?_ ?_
      . simp [Ed]; show _ * 8 <= _; omega
      . simp [Ed]; omega
      . rw [<- Afc hy3]; rfl
      repeat' (first | refine rl0 ?_ | refine rs0 (fun h => ?_) (fun h => ?_) | fail)
      exact ⟨i + 1, by omega, by omega, (by repeat (first | exact Ag | refine Aa rfl ?_)), rfl, rfl, rfl, Nat.le_refl _, Nat.le_refl _⟩
    . rename_i g
      have hi' := Ru hi g
      subst hi'
      rw [List.take_of_length_le (by rw [Ed]; exact Nat.le_refl _)]
      have h19 : x.op = 19 := by simpa using h
      obtain ⟨a, b, c, he⟩ := args3 hx h19
      have hks : Bm vars x.args = [A6 vars a, A6 vars b, A6 vars c] := by rw [he]; rfl
      have hkx : A6 vars x = if A6 vars a ≠ 2 \/ A6 vars b ≠ A6 vars c then 0 else A6 vars b := by rw [Ja vars x, if_neg (by omega), if_pos h19, hks]
      rw [hks]
      refine Tj [.v (.int .i64 (A6 vars a))] rfl rfl rfl (Fc rfl) rfl rfl (by omega) ?_
      repeat' (first | refine rl0 ?_ | refine rs0 (fun h => ?_) (fun h => ?_) | fail)
      . rw [hkx, if_pos (by simp_all)]
      refine Tj [.v (.int .i64 (A6 vars b))] rfl rfl rfl (Fc rfl) rfl rfl (by omega) ?_
      repeat' (first | refine rl0 ?_ | refine rs0 (fun h => ?_) (fun h => ?_) | fail)
      refine Tj [.v (.int .i64 (A6 vars c))] rfl rfl rfl (Fc rfl) rfl rfl (by omega) ?_
      repeat' (first | refine rl0 ?_ | refine rs0 (fun h => ?_) (fun h => ?_) | fail)
      . rw [hkx, if_pos (by simp_all)]
      refine wix [.v (.int .i64 (A6 vars b))] rfl rfl rfl (Fc rfl) rfl rfl (by omega) ?_
      repeat' (first | refine rl0 ?_ | refine rs0 (fun h => ?_) (fun h => ?_) | fail)
      rw [hkx, if_neg (by simp_all)]
    . rename_i g g2
      have hi' := Ru hi g
      subst hi'
      rw [List.take_of_length_le (by rw [Ed]; exact Nat.le_refl _)]
      have h2 : x.op = 2 := by simpa using h
      refine Gh (J3 vars x.name) rfl rfl rfl rfl rfl (by repeat (first | exact Ae | refine Ab (Ac _) ?_)) ?_
      repeat' (first | refine rl0 ?_ | refine rs0 (fun h => ?_) (fun h => ?_) | fail)
      . rw [Ja vars x, if_pos ⟨h2, by simpa using h⟩]
      have h19 : x.op ≠ 19 := by omega
      have hm : ¬ (x.op = 2 /\ Je vars x.name = false) := fun e => by simp [e.2] at h
      refine wcb (id := 1) (Ig (opZ x.op) (Bm vars x.args)) rfl rfl rfl rfl rfl rfl rfl rfl (Ab (Ki (Fc rfl)) (Ab (Ac _) Ae)) rfl ?_
      repeat' (first | refine rl0 ?_ | refine rs0 (fun h => ?_) (fun h => ?_) | fail)
      . rw [Na hx h19] at h
        rw [Ja vars x, if_neg hm, if_neg h19, if_neg (by simp_all)]
      . rw [Na hx h19] at h
        rw [Ja vars x, if_neg hm, if_neg h19, if_pos (by simpa using h), <- opZ_is hk.1 hk.2 h19]
    . rename_i g g2
      have hi' := Ru hi g
      subst hi'
      rw [List.take_of_length_le (by rw [Ed]; exact Nat.le_refl _)]
      have h19 : x.op ≠ 19 := by simpa using g2
      have hm : ¬ (x.op = 2 /\ Je vars x.name = false) := fun e => by simp [e.1] at h
      refine wcb (id := 1) (Ig (opZ x.op) (Bm vars x.args)) rfl rfl rfl rfl rfl rfl rfl rfl (Ab (Ki (Fc rfl)) (Ab (Ac _) Ae)) rfl ?_
      repeat' (first | refine rl0 ?_ | refine rs0 (fun h => ?_) (fun h => ?_) | fail)
      . rw [Na hx h19] at h
        rw [Ja vars x, if_neg hm, if_neg h19, if_neg (by simp_all)]
      . rw [Na hx h19] at h
        rw [Ja vars x, if_neg hm, if_neg h19, if_pos (by simpa using h), <- opZ_is hk.1 hk.2 h19]
end Go.Proofs.YtjagmmmcibdibaaGreatDoor
namespace Go.Proofs.YtjagmmmcibdibaaGreatDoor
open Go.RowKit
def Tm (zs : List ByteArray) (x : ByteArray) : Bool := zs.any fun y => x.toList == y.toList
theorem memB_hit (zs : List ByteArray) (x : ByteArray) (k : Nat) (hk : k < zs.length) (h : x.toList = (zs[k]?.getD ByteArray.empty).toList) : Tm zs x = true := by
  unfold Tm
  rw [List.any_eq_true]
  rw [List.getElem?_eq_getElem hk] at h
  exact ⟨zs[k], List.getElem_mem hk, by simpa using h⟩
theorem Afq (zs : List ByteArray) (x : ByteArray) (k : Nat) (hk : k < zs.length) (h : Tm (zs.take k) x = false) (h1 : ¬ x.toList = (zs[k]?.getD ByteArray.empty).toList) : Tm (zs.take (k + 1)) x = false := by
  rw [List.getElem?_eq_getElem hk] at h1
  unfold Tm at *
  rw [List.take_succ_eq_append_getElem hk, List.any_append, h]
  simpa using h1
def IntIs (P : Int -> Prop) (e : Ending) : Prop := ∃ n : Int, e = .returned (.int .i64 n) /\ P n
def En : List (List UInt8) := [[109, 111, 100, 117, 108, 101], [101, 110, 100], [118, 97, 114], [109, 105, 110], [119, 104, 101, 110], [103, 97, 105, 110], [108, 97, 98, 101, 108], [115, 116, 97, 121], [97, 110, 100], [111, 114], [110, 111, 116], [105, 102], [116, 104, 101, 110], [101, 108, 115, 101], [116, 114, 117, 101], [102, 97, 108, 115, 101], [109, 97, 120], [118, 97, 108, 117, 101], [114, 101, 97, 99, 104], [117, 110, 116, 105, 108], [119, 105, 116, 104, 105, 110], [116, 111, 116, 97, 108], [109, 101, 97, 110]]
def Ej : List (List UInt8) := [[40], [41], [91], [93], [58], [59], [44], [124], [43], [45], [42], [47], [61], [39], [60], [62], [33, 61], [60, 61], [62, 61], [45, 62], [46, 46]]
def Cz : List ByteArray := En.map fun l => ⟨l.toArray⟩
def Dn : List ByteArray := Ej.map fun l => ⟨l.toArray⟩
def Fd : Array Value := (Cz.map Value.string).toArray
def E9 : Array Value := (Dn.map Value.string).toArray
def D0 (c : UInt8) : Bool := decide (97 <= (c.toNat : Int)) && decide ((c.toNat : Int) <= 122)
def F9 (c : UInt8) : Bool := decide (48 <= (c.toNat : Int)) && decide ((c.toNat : Int) <= 57)
def Wn (c : UInt8) : Bool := decide (95 <= (c.toNat : Int)) && decide ((c.toNat : Int) <= 95)
def Dg (c : UInt8) : Bool := D0 c || F9 c || Wn c
def M7 (l : List UInt8) : Bool := l.all Dg && (l.head?.map D0).getD false
theorem Lw {c : UInt8} (h : 97 <= (c.toNat : Int) /\ (c.toNat : Int) <= 122) : D0 c = true := by simp [D0, h.1, h.2]
theorem J4 {c : UInt8} (h : (c.toNat : Int) < 97 \/ 122 < (c.toNat : Int)) : D0 c = false := by simp [D0]; omega
theorem N6 {c : UInt8} (h : 48 <= (c.toNat : Int) /\ (c.toNat : Int) <= 57) : F9 c = true := by simp [F9, h.1, h.2]
theorem Lr {c : UInt8} (h : (c.toNat : Int) < 48 \/ 57 < (c.toNat : Int)) : F9 c = false := by simp [F9]; omega
theorem Wo {c : UInt8} (h : 95 <= (c.toNat : Int) /\ (c.toNat : Int) <= 95) : Wn c = true := by simp [Wn, h.1, h.2]
theorem Qy {c : UInt8} (h : (c.toNat : Int) < 95 \/ 95 < (c.toNat : Int)) : Wn c = false := by simp [Wn]; omega
def Tn (zs : List (List UInt8)) (l : List UInt8) : Bool := zs.any fun y => l == y
theorem Vd (zs : List (List UInt8)) (s : ByteArray) : Tm (zs.map fun l => ⟨l.toArray⟩) s = Tn zs s.data.toList := by
  unfold Tm Tn
  rw [List.any_map]
  congr 1
  funext y
  show (s.toList == (ByteArray.mk y.toArray).toList) = _
  rw [ByteArray.toList_eq, ByteArray.toList_eq]
theorem F3 (s : ByteArray) : Tm Cz s = Tn En s.data.toList := Vd _ _
theorem G5 (s : ByteArray) : Tm Dn s = Tn Ej s.data.toList := Vd _ _
theorem Pb (zs : List ByteArray) (j : Nat) (h : j < zs.length) : ((zs.map Value.string).toArray)[j]? = some (.string (zs.getD j ByteArray.empty)) := by
  simp [h]
theorem Wx (j : Nat) (h : j < 23) : Fd[j]? = some (.string (Cz.getD j ByteArray.empty)) := by
  exact Pb Cz j h
theorem Wd (j : Nat) (h : j < 21) : E9[j]? = some (.string (Dn.getD j ByteArray.empty)) := by
  exact Pb Dn j h
def Lz (l : List UInt8) : Bool := M7 l && decide (l.length <= 12) && !Tn En l
def Ef (l : List UInt8) : Bool := l.all F9 && (l == [48] || (!l.isEmpty && l.head? != some 48 && decide (l.length <= 4)))
def C3 (kind : Int) (l : List UInt8) : Bool :=
  if kind = 1 then Lz l else if kind = 2 then Tn En l else if kind = 3 then Ef l else if kind = 4 then Tn Ej l else false
def Du (kind : Int) (l : List UInt8) (at_ : Int) : Int := if at_ < 0 \/ 20000 <= at_ \/ C3 kind l = false then 340 else 0
end Go.Proofs.YtjagmmmcibdibaaGreatDoor
namespace Go.Proofs.YtjagmmmcibdibaaGreatDoor
open Go.RowKit
set_option maxHeartbeats 400000 in
theorem Rl (lo hi b : Int) (w : World) :
    Calls Tryz.prog 190 #[.agg #[.int .u8 lo, .int .u8 hi], .int .u8 b] w fun e w' => e = .returned (.bool (decide (lo <= b) && decide (b <= hi))) /\ w.alloc (.cells #[.int .u8 lo, .int .u8 hi] 252) = w' := by
  by_cases h1 : lo <= b
  . go_enter Tryz.func190, Tryz.ntmps190
    go_wp2
    go_ret
    exact ⟨by simp [h1], rfl⟩
  . go_enter Tryz.func190, Tryz.ntmps190
    go_wp2
    go_ret
    exact ⟨by simp; omega, rfl⟩
theorem Hh (w : World) :
    Calls Tryz.prog 154 #[] w fun e w' => e = .returned (.slice (some ⟨w.heap.size, 0, none⟩) 23 23) /\ w.alloc (.cells Fd 9) = w' := by
  go_enter Tryz.func154, Tryz.ntmps154
  go_wp2
  go_ret
  exact ⟨rfl, rfl⟩
theorem Iy (w : World) :
    Calls Tryz.prog 156 #[] w fun e w' => e = .returned (.slice (some ⟨w.heap.size, 0, none⟩) 21 21) /\ w.alloc (.cells E9 9) = w' := by
  go_enter Tryz.func156, Tryz.ntmps156
  go_wp2
  go_ret
  exact ⟨rfl, rfl⟩
def C1 : Array Value := #[.func (.func 190) #[.agg #[.int .u8 97, .int .u8 122]] #[], .func (.func 190) #[.agg #[.int .u8 48, .int .u8 57]] #[], .func (.func 190) #[.agg #[.int .u8 95, .int .u8 95]] #[]]
theorem Oe (w : World) :
    Calls Tryz.prog 169 #[] w fun e w' => e = .returned (.agg C1) /\ w.alloc (.cells C1 229) = w' := by
  have hmf : ∀ (fn : Fn) (first cap : Array Value) (w : World), (Instr.makeFunc fn first cap).run Tryz.prog w = .ok (.func fn first cap) w := fun _ _ _ _ => rfl
  go_enter Tryz.func169, Tryz.ntmps169
  go_wp2
  exact bodyPost_ret (v := .agg C1) (by simp [results, Tryz.results169, go_sem, C1]) rfl ⟨rfl, rfl⟩
set_option maxHeartbeats 400000 in
theorem Afb (b n c : Nat) (zs : List ByteArray) (x : ByteArray) (w : World) (hz : zs.length = n) (hbig : n <= 1000000)
    (hc : ∀ j, j < n -> w.cell? ⟨b, j, none⟩ = some (.string (zs.getD j ByteArray.empty))) :
    Calls Tryz.prog 59 #[.slice (some ⟨b, 0, none⟩) n c, .string x] w fun e w' => IntIs (fun i => decide (0 <= i) = Tm zs x) e /\ w = w' := by
  have HZ := Lib.hid hz
  have hz' : n <= zs.length := by omega
  clear hz
  go_enter Tryz.func59, Tryz.ntmps59
  go_wp2
  go_loop [5, 8] (fun _ i => ∃ k : Nat, k <= n /\ i = .int .i64 k /\ Tm (zs.take k) x = false) (fun _ i => n - (intOf i).toNat)
  case atStart => exact ⟨0, Nat.zero_le _, rfl, by simp [Tm]⟩
  case round =>
    obtain ⟨k, hk, rfl, hm⟩ := hrel
    have hcell : k < n -> w.cell? ⟨b, k, none⟩ = some (.string (zs.getD k ByteArray.empty)) := fun h => hc k h
    have HM := Lib.hid hm
    clear hm hc
    go_wp2
    . rename_i hlt _ _ heq _
      go_ret
      refine ⟨⟨_, rfl, ?_⟩, rfl⟩
      rw [memB_hit zs x k (by omega) (by simpa using heq)]
      simp
    . rename_i hlt hne
      refine ⟨⟨k + 1, by omega, by simp, ?_⟩, by simp [intOf]; omega⟩
      exact Afq zs x k (by omega) HM.out (by simpa using hne)
    . rename_i hge _
      go_ret
      refine ⟨⟨_, rfl, ?_⟩, rfl⟩
      have : k = zs.length := by have := HZ.out; omega
      have h := HM.out
      rw [this, List.take_length] at h
      rw [h]; rfl
def Adl (w : World) (b : Nat) : Prop := w.cell? ⟨b, 0, none⟩ = some (.func (.func 190) #[.agg #[.int .u8 97, .int .u8 122]] #[]) /\ w.cell? ⟨b, 1, none⟩ = some (.func (.func 190) #[.agg #[.int .u8 48, .int .u8 57]] #[]) /\ w.cell? ⟨b, 2, none⟩ = some (.func (.func 190) #[.agg #[.int .u8 95, .int .u8 95]] #[])
theorem Gs (lo hi b : Int) (w : World) (h : lo <= b /\ b <= hi) :
    Calls Tryz.prog 190 #[.agg #[.int .u8 lo, .int .u8 hi], .int .u8 b] w fun e w' => e = .returned (.bool true) /\ Below w.heap.size w w' :=
  (Rl lo hi b w).mono fun e w' ⟨he, hw⟩ => ⟨by rw [he]; simp [h.1, h.2], by rw [<- hw]; exact (Below.refl _ _).alloc (Nat.le_refl _) _⟩
theorem G3 (lo hi b : Int) (w : World) (h : b < lo \/ hi < b) :
    Calls Tryz.prog 190 #[.agg #[.int .u8 lo, .int .u8 hi], .int .u8 b] w fun e w' => e = .returned (.bool false) /\ Below w.heap.size w w' :=
  (Rl lo hi b w).mono fun e w' ⟨he, hw⟩ => ⟨by rw [he]; simp; omega, by rw [<- hw]; exact (Below.refl _ _).alloc (Nat.le_refl _) _⟩
end Go.Proofs.YtjagmmmcibdibaaGreatDoor
namespace Go.Proofs.YtjagmmmcibdibaaGreatDoor
open Go.RowKit
theorem kinds_at (w : World) : Adl ((w.alloc (.cells C1 229)).alloc (.cells C1 229)) (w.heap.size + 1) :=
  ⟨(World.cell?_alloc_at (hn := by simp) ..).trans rfl, (World.cell?_alloc_at (hn := by simp) ..).trans rfl, (World.cell?_alloc_at (hn := by simp) ..).trans rfl⟩
set_option maxHeartbeats 1000000 in
theorem Tl (s : ByteArray) (w : World) (hs : s.size <= 9223372036854775807) :
    Calls Tryz.prog 153 #[.string s] w fun e w' => e = .returned (.bool (M7 s.data.toList)) /\ Below w.heap.size w w' := by
  have hks := kinds_at w
  go_enter Tryz.func153, Tryz.ntmps153
  go_wp2_with (go_at_call 169; refine (Oe _).mono ?_; rintro e w' ⟨rfl, rfl⟩; unfold C1)
  go_loopw [4, 8] (fun _ i wr => ∃ k : Nat, k <= s.size /\ i = .int .i64 k /\ (s.data.toList.take k).all Dg = true /\ Adl wr (w.heap.size + 1) /\ Below w.heap.size w wr) (fun _ i _ => s.size - (intOf i).toNat)
  case atStart =>
    exact ⟨0, by omega, rfl, by simp, hks, ((Below.refl _ _).alloc (Nat.le_refl _) _).alloc (by simp) _⟩
  case round =>
    obtain ⟨k, hk, rfl, hm, hK, hB⟩ := hrel
    clear hks
    obtain ⟨hK0, hK1, hK2⟩ := hK
    have k0 := Bn hK0
    have k1 := Bn hK1
    have k2 := Bn hK2
    have hBs := hB.size
    have HM := Lib.hid hm
    clear hm
    by_cases hlt : k < s.size
    . have hl : k < s.data.toList.length := by simpa using hlt
      have hcase : (97 <= (s[k].toNat : Int) /\ (s[k].toNat : Int) <= 122) \/ ((s[k].toNat : Int) < 97 \/ 122 < (s[k].toNat : Int)) := by omega
      have hcase2 : (48 <= (s[k].toNat : Int) /\ (s[k].toNat : Int) <= 57) \/ ((s[k].toNat : Int) < 48 \/ 57 < (s[k].toNat : Int)) := by omega
      have hcase3 : (95 <= (s[k].toNat : Int) /\ (s[k].toNat : Int) <= 95) \/ ((s[k].toNat : Int) < 95 \/ 95 < (s[k].toNat : Int)) := by omega
      have HP : Hid ((97 <= (s[k].toNat : Int) /\ (s[k].toNat : Int) <= 122) \/ (48 <= (s[k].toNat : Int) /\ (s[k].toNat : Int) <= 57) \/ (95 <= (s[k].toNat : Int) /\ (s[k].toNat : Int) <= 95) -> Dg s[k] = true) := by
        rintro (h | h | h)
        . simp [Dg, Lw h]
        . simp [Dg, N6 h]
        . simp [Dg, Wo h]
      have HN : Hid (((s[k].toNat : Int) < 97 \/ 122 < (s[k].toNat : Int)) -> ((s[k].toNat : Int) < 48 \/ 57 < (s[k].toNat : Int)) -> ((s[k].toNat : Int) < 95 \/ 95 < (s[k].toNat : Int)) -> Dg s[k] = false) := by
        intro h1 h2 h3
        simp [Dg, J4 h1, Lr h2, Qy h3]
      rcases hcase with hc | hc
      case inl =>
        clear hcase2 hcase3
        go_wp2_with fail
        refine Ax (by kernel_rfl) (by kernel_rfl) ?_
        repeat (go_big_quiet_step ((go_at_call 190; first | exact Calls.later_of (Gs _ _ _ _ (by omega)) | exact Calls.later_of (G3 _ _ _ _ (by omega)))))
        refine wpQuiet_nil ?_
        intro w1 hb1
        go_wp2
        go_roundw
        case rel => exact ⟨k + 1, by omega, by go_num, Pg hl HM.out (HP.out (by omega)), ⟨Az hb1 hK0, Az hb1 hK1, Az hb1 hK2⟩, hB.trans (hb1.mono hBs)⟩
        case measure => simp [intOf]; omega
      case inr =>
        rcases hcase2 with hd | hd
        case inl =>
          clear hcase3
          go_wp2_with fail
          refine Ax (by kernel_rfl) (by kernel_rfl) ?_
          repeat (go_big_quiet_step ((go_at_call 190; first | exact Calls.later_of (Gs _ _ _ _ (by omega)) | exact Calls.later_of (G3 _ _ _ _ (by omega)))))
          refine wpQuiet_nil ?_
          intro w1 hb1
          go_wp2
          go_roundw
          case rel => exact ⟨k + 1, by omega, by go_num, Pg hl HM.out (HP.out (by omega)), ⟨Az hb1 hK0, Az hb1 hK1, Az hb1 hK2⟩, hB.trans (hb1.mono hBs)⟩
          case measure => simp [intOf]; omega
        case inr =>
          rcases hcase3 with hu | hu
          case inl =>
            go_wp2_with fail
            refine Ax (by kernel_rfl) (by kernel_rfl) ?_
            repeat (go_big_quiet_step ((go_at_call 190; first | exact Calls.later_of (Gs _ _ _ _ (by omega)) | exact Calls.later_of (G3 _ _ _ _ (by omega)))))
            refine wpQuiet_nil ?_
            intro w1 hb1
            go_wp2
            go_roundw
            case rel => exact ⟨k + 1, by omega, by go_num, Pg hl HM.out (HP.out (by omega)), ⟨Az hb1 hK0, Az hb1 hK1, Az hb1 hK2⟩, hB.trans (hb1.mono hBs)⟩
            case measure => simp [intOf]; omega
          case inr =>
            have HF : Hid (M7 s.data.toList = false) := Lib.hid (by simp [M7, Mj hl (HN.out hc hd hu)])
            go_wp2_with fail
            refine Ax (by kernel_rfl) (by kernel_rfl) ?_
            repeat (go_big_quiet_step ((go_at_call 190; first | exact Calls.later_of (Gs _ _ _ _ (by omega)) | exact Calls.later_of (G3 _ _ _ _ (by omega)))))
            refine wpQuiet_nil ?_
            intro w1 hb1
            go_wp2
            go_ret
            exact ⟨By HF.out.symm, hB.trans (hb1.mono hBs)⟩
    . have HA : Hid (s.data.toList.all Dg = true) := Lib.hid (Aa1 (by simp; omega) HM.out)
      by_cases h0 : s.size = 0
      . have hz : s.toList = [] := D3 h0
        have HF : Hid (M7 s.data.toList = false) := Lib.hid (by simp [M7, <- Cp, hz])
        go_wp2_with fail
        refine Ax (by kernel_rfl) (by kernel_rfl) ?_
        repeat (go_big_quiet_step (fail))
        refine wpQuiet_nil ?_
        intro w1 hb1
        go_wp2
        go_ret
        exact ⟨By HF.out.symm, hB.trans (hb1.mono hBs)⟩
      . have hz : s.toList.isEmpty = false := Ek (by omega)
        have hp : 0 < s.size := by omega
        have hcase : (97 <= (s[0].toNat : Int) /\ (s[0].toNat : Int) <= 122) \/ ((s[0].toNat : Int) < 97 \/ 122 < (s[0].toNat : Int)) := by omega
        have HH : Hid (M7 s.data.toList = D0 s[0]) := Lib.hid (by rw [M7, HA.out, Ae9 hp]; simp)
        rcases hcase with hc | hc
        case inl =>
          have HF : Hid (M7 s.data.toList = true) := Lib.hid (HH.out.trans (Lw hc))
          go_wp2_with fail
          refine Ax (by kernel_rfl) (by kernel_rfl) ?_
          repeat (go_big_quiet_step ((go_at_call 190; first | exact Calls.later_of (Gs _ _ _ _ (by omega)) | exact Calls.later_of (G3 _ _ _ _ (by omega)))))
          refine wpQuiet_nil ?_
          intro w1 hb1
          go_wp2
          go_ret
          exact ⟨By HF.out.symm, hB.trans (hb1.mono hBs)⟩
        case inr =>
          have HF : Hid (M7 s.data.toList = false) := Lib.hid (HH.out.trans (J4 hc))
          go_wp2_with fail
          refine Ax (by kernel_rfl) (by kernel_rfl) ?_
          repeat (go_big_quiet_step ((go_at_call 190; first | exact Calls.later_of (Gs _ _ _ _ (by omega)) | exact Calls.later_of (G3 _ _ _ _ (by omega)))))
          refine wpQuiet_nil ?_
          intro w1 hb1
          go_wp2
          go_ret
          exact ⟨By HF.out.symm, hB.trans (hb1.mono hBs)⟩
end Go.Proofs.YtjagmmmcibdibaaGreatDoor
namespace Go.Proofs.YtjagmmmcibdibaaGreatDoor
open Go.RowKit
theorem Bz (b n c : Nat) (zs : List ByteArray) (x : ByteArray) (w : World) (hz : zs.length = n) (hbig : n <= 1000000)
    (hc : ∀ j, j < n -> w.cell? ⟨b, j, none⟩ = some (.string (zs.getD j ByteArray.empty))) :
    Calls Tryz.prog 41 #[.slice (some ⟨b, 0, none⟩) n c, .string x] w fun e w' => e = .returned (.bool (Tm zs x)) /\ w = w' := by
  have hi := Afb b n c zs x w hz hbig hc
  have HI := Lib.hid hi
  have HZ := Lib.hid hz
  clear hi hc hz
  go_enter Tryz.func41, Tryz.ntmps41
  go_wp2_with fail
  refine HI.out.mono ?_
  rintro e w' ⟨⟨i, rfl, hi⟩, rfl⟩
  have HH := Lib.hid hi
  clear hi
  go_wp2
  go_ret
  exact ⟨By HH.out, rfl⟩
end Go.Proofs.YtjagmmmcibdibaaGreatDoor
namespace Go.Proofs.YtjagmmmcibdibaaGreatDoor
open Go.RowKit
set_option maxHeartbeats 1000000 in
theorem Ab0 (s : ByteArray) (w : World) (hs : s.size <= 9223372036854775807) :
    Calls Tryz.prog 155 #[.string s] w fun e w' => e = .returned (.bool (Ef s.data.toList)) /\ Below w.heap.size w w' := by
  have i1 : ∀ w, (Instr.index 229 (.agg C1) (.int .i64 1)).run Tryz.prog w = .ok (.func (.func 190) #[.agg #[.int .u8 48, .int .u8 57]] #[]) w := fun _ => by kernel_rfl
  go_enter Tryz.func155, Tryz.ntmps155
  go_wp2_with (go_at_call 169; refine (Oe _).mono ?_; rintro e w' ⟨rfl, rfl⟩)
  clear i1
  go_loopw [4, 9] (fun _ i wr => ∃ k : Nat, k <= s.size /\ i = .int .i64 k /\ (s.data.toList.take k).all F9 = true /\ Below w.heap.size w wr) (fun _ i _ => s.size - (intOf i).toNat)
  case atStart =>
    exact ⟨0, by omega, rfl, by simp, (Below.refl _ _).alloc (Nat.le_refl _) _⟩
  case round =>
    obtain ⟨k, hk, rfl, hm, hB⟩ := hrel
    have hBs := hB.size
    have HM := Lib.hid hm
    clear hm
    by_cases hlt : k < s.size
    . have hl : k < s.data.toList.length := by simpa using hlt
      have hcase2 : (48 <= (s[k].toNat : Int) /\ (s[k].toNat : Int) <= 57) \/ ((s[k].toNat : Int) < 48 \/ 57 < (s[k].toNat : Int)) := by omega
      rcases hcase2 with hc | hc
      case inl =>
        have HP : Hid (F9 s[k] = true) := Lib.hid (N6 hc)
        go_wp2_with (go_at_call 190; refine (Gs _ _ _ _ (by omega)).mono ?_; rintro e w1 ⟨rfl, hb1⟩)
        go_roundw
        case rel => exact ⟨k + 1, by omega, by go_num, Pg hl HM.out HP.out, hB.trans (hb1.mono hBs)⟩
        case measure => simp [intOf]; omega
      case inr =>
        have HF : Hid (Ef s.data.toList = false) := Lib.hid (by simp [Ef, Mj hl (Lr hc)])
        go_wp2_with (go_at_call 190; refine (G3 _ _ _ _ (by omega)).mono ?_; rintro e w1 ⟨rfl, hb1⟩)
        go_ret
        exact ⟨By HF.out.symm, hB.trans (hb1.mono hBs)⟩
    . have HA : Hid (s.data.toList.all F9 = true) := Lib.hid (Aa1 (by simp; omega) HM.out)
      by_cases h0 : s.toList = [48]
      . have HF : Hid (Ef s.data.toList = true) := Lib.hid (by rw [Ef, HA.out, <- Cp, h0]; rfl)
        go_wp2
        go_ret
        exact ⟨By HF.out.symm, hB⟩
      . have HN : Hid ((s.data.toList == [48]) = false) := Lib.hid (by rw [<- Cp]; simpa using h0)
        have h0' : (s.toList == [48]) = false := by simpa using h0
        clear h0
        by_cases hz0 : s.size = 0
        . have hz : s.toList = [] := D3 hz0
          have HF : Hid (Ef s.data.toList = false) := Lib.hid (by rw [Ef, HN.out, <- Cp, hz]; rfl)
          go_wp2
          go_ret
          exact ⟨By HF.out.symm, hB⟩
        . have hz : s.toList.isEmpty = false := Ek (by omega)
          have hp : 0 < s.size := by omega
          have HF : Hid (Ef s.data.toList = ((!(s[0] == 48)) && decide (s.size <= 4))) := Lib.hid (by
            rw [Ef, HA.out, HN.out, Ae9 hp, <- Cp, hz]
            simp [Cp, bne])
          clear hz0
          by_cases h48 : s[0] = 48
          . have h1 : ((s[0].toNat : Int) != 48) = false := by rw [h48]; rfl
            have HG : Hid (Ef s.data.toList = false) := Lib.hid (by rw [HF.out, h48]; rfl)
            clear h48
            go_wp2
            go_ret
            exact ⟨By HG.out.symm, hB⟩
          . have h1 : ((s[0].toNat : Int) != 48) = true := by
              rw [bne_iff_ne]; intro h; apply h48; exact UInt8.toNat_inj.1 (by simpa using Int.ofNat.inj h)
            have HG : Hid (Ef s.data.toList = decide (s.size <= 4)) := Lib.hid (by rw [HF.out, beq_eq_false_iff_ne.2 h48]; rfl)
            clear h48
            go_wp2
            go_ret
            exact ⟨By (by rw [HG.out, Bool.eq_iff_iff]; simp; omega), hB⟩
end Go.Proofs.YtjagmmmcibdibaaGreatDoor
namespace Go.Proofs.YtjagmmmcibdibaaGreatDoor
open Go.RowKit
theorem J7 (w : World) (j : Nat) (h : j < 23) : (w.alloc (.cells Fd 9)).cell? ⟨w.heap.size, j, none⟩ = some (.string (Cz.getD j ByteArray.empty)) :=
  (World.cell?_alloc_new _ _ _ _).trans (Wx j h)
theorem O3 (w : World) (j : Nat) (h : j < 21) : (w.alloc (.cells E9 9)).cell? ⟨w.heap.size, j, none⟩ = some (.string (Dn.getD j ByteArray.empty)) :=
  (World.cell?_alloc_new _ _ _ _).trans (Wd j h)
theorem Aby (l : List UInt8) : Lz l = (l.all Dg && (l.head?.map D0).getD false && decide (l.length <= 12) && !Tn En l) := rfl
end Go.Proofs.YtjagmmmcibdibaaGreatDoor
namespace Go.Proofs.YtjagmmmcibdibaaGreatDoor
open Go.RowKit
theorem Jm (kind : Int) (l : List UInt8) : C3 kind l = if kind = 1 then Lz l else if kind = 2 then Tn En l else if kind = 3 then Ef l else if kind = 4 then Tn Ej l else false := rfl
set_option maxHeartbeats 1000000 in
theorem Ha (kind : Int) (s : ByteArray) (w : World) (hs : s.size <= 9223372036854775807) :
    Calls Tryz.prog 122 #[.int .i64 kind, .string s] w fun e w' => e = .returned (.bool (C3 kind s.data.toList)) /\ Below w.heap.size w w' := by
  have hlen : s.data.toList.length = s.size := by simp
  have HL := Lib.hid hlen
  clear hlen
  by_cases h1 : kind = 1
  . subst h1
    cases h2 : M7 s.data.toList
    . go_enter Tryz.func122, Tryz.ntmps122
      go_wp2_with (go_at_call 153; refine (Tl _ _ hs).mono ?_; rintro e w1 ⟨rfl, hb1⟩)
      go_ret
      exact ⟨By (by rw [Jm, if_pos rfl, Lz, h2]; rfl), hb1⟩
    . by_cases h3 : s.size <= 12
      . have HM : Hid (Lz s.data.toList = !Tm Cz s) := Lib.hid (by rw [Lz, h2, F3, decide_eq_true (by rw [HL.out]; exact h3)]; rfl)
        go_enter Tryz.func122, Tryz.ntmps122
        go_wp2_with (first | (go_at_call 153; refine (Tl _ _ hs).mono ?_; rintro e w1 ⟨rfl, hb1⟩) | (go_at_call 154; refine (Hh _).mono ?_; rintro e w' ⟨rfl, rfl⟩) | (go_at_call 41; refine (Bz _ 23 _ Cz _ _ rfl (by omega) (J7 _)).mono ?_; rintro e w' ⟨rfl, rfl⟩))
        go_ret
        exact ⟨By (by rw [Jm, if_pos rfl, HM.out]), hb1.alloc hb1.size _⟩
      . go_enter Tryz.func122, Tryz.ntmps122
        go_wp2_with (go_at_call 153; refine (Tl _ _ hs).mono ?_; rintro e w1 ⟨rfl, hb1⟩)
        go_ret
        exact ⟨By (by rw [Jm, if_pos rfl, Lz, decide_eq_false (by rw [HL.out]; exact h3)]; simp), hb1⟩
  . by_cases h2 : kind = 2
    . subst h2
      go_enter Tryz.func122, Tryz.ntmps122
      go_wp2_with (first | (go_at_call 154; refine (Hh _).mono ?_; rintro e w' ⟨rfl, rfl⟩) | (go_at_call 41; refine (Bz _ 23 _ Cz _ _ rfl (by omega) (J7 _)).mono ?_; rintro e w' ⟨rfl, rfl⟩))
      go_ret
      exact ⟨By (by rw [Jm, F3]; rfl), (Below.refl _ _).alloc (Nat.le_refl _) _⟩
    . by_cases h3 : kind = 3
      . subst h3
        go_enter Tryz.func122, Tryz.ntmps122
        go_wp2_with (go_at_call 155; refine (Ab0 _ _ hs).mono ?_; rintro e w1 ⟨rfl, hb1⟩)
        go_ret
        exact ⟨By rfl, hb1⟩
      . by_cases h4 : kind = 4
        . subst h4
          go_enter Tryz.func122, Tryz.ntmps122
          go_wp2_with (first | (go_at_call 156; refine (Iy _).mono ?_; rintro e w' ⟨rfl, rfl⟩) | (go_at_call 41; refine (Bz _ 21 _ Dn _ _ rfl (by omega) (O3 _)).mono ?_; rintro e w' ⟨rfl, rfl⟩))
          go_ret
          exact ⟨By (by rw [Jm, G5]; rfl), (Below.refl _ _).alloc (Nat.le_refl _) _⟩
        . have HF : Hid (C3 kind s.data.toList = false) := Lib.hid (by rw [Jm, if_neg h1, if_neg h2, if_neg h3, if_neg h4])
          go_enter Tryz.func122, Tryz.ntmps122
          go_wp2
          go_ret
          exact ⟨By HF.out.symm, Below.refl _ _⟩
set_option maxHeartbeats 1000000 in
theorem T5 (kind : Int) (s : ByteArray) (a : Int) (w : World) (hs : s.size <= 9223372036854775807) :
    Calls Tryz.prog 85 #[.agg #[.int .i64 kind, .string s, .int .i64 a]] w fun e w' => e = .returned (.int .i64 (Du kind s.data.toList a)) /\ Below w.heap.size w w' := by
  by_cases h1 : a < 0
  . have HF : Hid (Du kind s.data.toList a = 340) := Lib.hid (if_pos (.inl h1))
    go_enter Tryz.func85, Tryz.ntmps85
    go_wp2
    go_ret
    exact ⟨Sk HF.out.symm, (Below.refl _ _).alloc (Nat.le_refl _) _⟩
  . by_cases h2 : 20000 <= a
    . have HF : Hid (Du kind s.data.toList a = 340) := Lib.hid (if_pos (.inr (.inl h2)))
      go_enter Tryz.func85, Tryz.ntmps85
      go_wp2
      go_ret
      exact ⟨Sk HF.out.symm, (Below.refl _ _).alloc (Nat.le_refl _) _⟩
    . cases h3 : C3 kind s.data.toList
      . have HF : Hid (Du kind s.data.toList a = 340) := Lib.hid (if_pos (.inr (.inr h3)))
        go_enter Tryz.func85, Tryz.ntmps85
        go_wp2_with (go_at_call 122; refine (Ha _ _ _ hs).mono ?_; rintro e w1 ⟨rfl, hb1⟩)
        go_ret
        exact ⟨Sk HF.out.symm, ((Below.refl _ _).alloc (Nat.le_refl _) _).trans (hb1.mono (by simp))⟩
      . have HF : Hid (Du kind s.data.toList a = 0) := Lib.hid (if_neg (by rw [h3]; simp; omega))
        go_enter Tryz.func85, Tryz.ntmps85
        go_wp2_with (go_at_call 122; refine (Ha _ _ _ hs).mono ?_; rintro e w1 ⟨rfl, hb1⟩)
        go_ret
        exact ⟨Sk HF.out.symm, ((Below.refl _ _).alloc (Nat.le_refl _) _).trans (hb1.mono (by simp))⟩
end Go.Proofs.YtjagmmmcibdibaaGreatDoor
namespace Go.Proofs.YtjagmmmcibdibaaGreatDoor
open Go.RowKit
def A9 : Bool -> List UInt8 -> List UInt8
  | _, [] => []
  | true, c :: t => if c = 10 then A9 false t else A9 true t
  | false, c :: t => if c = 32 \/ c = 10 then A9 false t else if c = 35 then A9 true t else c :: t
theorem Sr (b : Bool) (l : List UInt8) : (A9 b l).length <= l.length := by
  induction l generalizing b with
  | nil => cases b <;> simp [A9]
  | cons c t ih =>
    cases b
    . simp only [A9]
      split
      . have := ih false; simp; omega
      . split
        . have := ih true; simp; omega
        . simp
    . simp only [A9]
      split
      . have := ih false; simp; omega
      . have := ih true; simp; omega
theorem Wf (b : Bool) (l : List UInt8) : A9 b l = l.drop (l.length - (A9 b l).length) := by
  induction l generalizing b with
  | nil => cases b <;> simp [A9]
  | cons c t ih =>
    have key : ∀ b', A9 b' t = (c :: t).drop ((c :: t).length - (A9 b' t).length) := by
      intro b'
      have h := Sr b' t
      rw [show (c :: t).length - (A9 b' t).length = (t.length - (A9 b' t).length) + 1 from by simp; omega, List.drop_succ_cons]
      exact ih b'
    cases b
    . simp only [A9]
      split
      . exact key false
      . split
        . exact key true
        . simp
    . simp only [A9]
      split
      . exact key false
      . exact key true
theorem O6 (l : List UInt8) : (Lib.indexByte l 10 = -1 /\ A9 true l = []) \/ ∃ j : Nat, Lib.indexByte l 10 = j /\ j < l.length /\ A9 true l = A9 false (l.drop j) := by
  induction l with
  | nil => exact .inl ⟨rfl, rfl⟩
  | cons c t ih =>
    by_cases h : c = 10
    . refine .inr ⟨0, by simp [Lib.indexByte, h], by simp, ?_⟩
      simp [A9, h]
    . rcases ih with ⟨h1, h2⟩ | ⟨j, h1, h2, h3⟩
      . exact .inl ⟨by simp [Lib.indexByte, h, h1], by simp [A9, h, h2]⟩
      . refine .inr ⟨j + 1, ?_, by simp; omega, ?_⟩
        . have hne : ¬ ((j : Int) = -1) := by omega
          simp [Lib.indexByte, h, h1, hne]
        . simp [A9, h, h3]
theorem G0 {l : List UInt8} {k : Nat} (h : k < l.length) : l.drop k = l[k] :: l.drop (k + 1) := List.drop_eq_getElem_cons h
theorem Qq {l : List UInt8} {k : Nat} (h : k < l.length) (hc : l[k] = 32 \/ l[k] = 10) : A9 false (l.drop k) = A9 false (l.drop (k + 1)) := by
  rw [G0 h]; simp [A9, hc]
theorem Ms {l : List UInt8} {k : Nat} (h : k < l.length) (hc : l[k] = 35) : A9 false (l.drop k) = A9 true (l.drop (k + 1)) := by
  rw [G0 h]; simp [A9, hc]
theorem Acv {l : List UInt8} {k : Nat} (h : k < l.length) (h1 : l[k] ≠ 32) (h2 : l[k] ≠ 10) (h3 : l[k] ≠ 35) : A9 false (l.drop k) = l.drop k := by
  rw [G0 h]; simp [A9, h1, h2, h3]
theorem L8 {l : List UInt8} {k : Nat} (h : k < l.length) (hc : l[k] = 35) (hi : Lib.indexByte (l.drop k) 10 = -1) : A9 false (l.drop k) = A9 false (l.drop l.length) := by
  rw [Ms h hc]
  have e : Lib.indexByte (l.drop k) 10 = if Lib.indexByte (l.drop (k + 1)) 10 == -1 then -1 else Lib.indexByte (l.drop (k + 1)) 10 + 1 := by
    rw [G0 h, hc]; rfl
  rcases O6 (l.drop (k + 1)) with ⟨_, h2⟩ | ⟨j, h1, _, _⟩
  . rw [h2]; simp [A9]
  . rw [e, h1] at hi
    have : ¬ ((j : Int) == -1) = true := by simp
    rw [if_neg this] at hi; omega
theorem L9 {l : List UInt8} {k : Nat} (h : k < l.length) (hc : l[k] = 35) (hi : ¬ Lib.indexByte (l.drop k) 10 < 0) :
    ∃ j : Nat, Lib.indexByte (l.drop k) 10 = j /\ 1 <= j /\ k + j < l.length /\ A9 false (l.drop k) = A9 false (l.drop (k + j)) := by
  rw [Ms h hc]
  have e : Lib.indexByte (l.drop k) 10 = if Lib.indexByte (l.drop (k + 1)) 10 == -1 then -1 else Lib.indexByte (l.drop (k + 1)) 10 + 1 := by
    rw [G0 h, hc]; rfl
  rcases O6 (l.drop (k + 1)) with ⟨h1, _⟩ | ⟨j, h1, h2, h3⟩
  . rw [e, h1] at hi; simp at hi
  . have hne : ¬ ((j : Int) == -1) = true := by simp
    refine ⟨j + 1, ?_, by omega, ?_, ?_⟩
    . rw [e, h1, if_neg hne]; omega
    . simp at h2; omega
    . rw [h3, List.drop_drop]; congr 2; omega
theorem Ro {l : List UInt8} {c : UInt8} (h : Lib.indexByte l c < 0) : Lib.indexByte l c = -1 := by
  induction l with
  | nil => rfl
  | cons b t ih =>
    simp only [Lib.indexByte] at h |-
    split
    . rename_i h1; rw [if_pos h1] at h; simp at h
    . rename_i h1
      rw [if_neg h1] at h
      split
      . rfl
      . rename_i h2
        rw [if_neg h2] at h
        have := ih (by omega)
        exact absurd (by simpa using this) h2
def M4 (l : List UInt8) (k : Nat) : Nat := l.length - (A9 false (l.drop k)).length
theorem Aaw (l : List UInt8) (k : Nat) (h : k <= l.length) : k <= M4 l k /\ M4 l k <= l.length := by
  have := Sr false (l.drop k)
  unfold M4
  simp at this
  omega
theorem Aax {l : List UInt8} {k k' : Nat} (h : A9 false (l.drop k') = A9 false (l.drop k)) (he : A9 false (l.drop k') = l.drop k') (hk : k' <= l.length) : M4 l k = k' := by
  unfold M4
  rw [<- h, he]; simp; omega
theorem Jo (l : List UInt8) (k : Nat) : l.drop (M4 l k) = A9 false (l.drop k) := by
  unfold M4
  have h := Wf false (l.drop k)
  have hle := Sr false (l.drop k)
  rw [List.drop_drop] at h
  rcases Nat.lt_or_ge l.length k with hk | hk
  . have e : l.drop k = [] := List.drop_eq_nil_of_le (by omega)
    rw [e]; simp [A9]
  . rw [List.length_drop] at h hle
    rw [show l.length - (A9 false (l.drop k)).length = k + (l.length - k - (A9 false (l.drop k)).length) from by omega]
    exact h.symm
def Ep (l : List UInt8) : Int × List UInt8 :=
  if (l.head?.map D0).getD false then (if Tn En (l.takeWhile Dg) then 2 else 1, l.takeWhile Dg)
  else if (l.head?.map F9).getD false then (3, l.takeWhile Dg)
  else (4, if Tn Ej (l.take 2) then l.take 2 else l.take 1)
theorem Wj {l : List UInt8} {p : UInt8 -> Bool} {n : Nat} (hn : n <= l.length) (h : (l.take n).all p = true) (he : ∀ h' : n < l.length, p l[n] = false) : l.takeWhile p = l.take n := by
  induction l generalizing n with
  | nil => simp
  | cons c t ih =>
    cases n with
    | zero =>
      have := he (by simp)
      simp at this
      simp [this]
    | succ n =>
      simp only [List.take_succ_cons, List.all_cons, Bool.and_eq_true] at h
      rw [List.takeWhile_cons, if_pos h.1, List.take_succ_cons, ih (by simpa using hn) h.2 (fun h' => he (Nat.succ_lt_succ h'))]
theorem Df (s : ByteArray) (i j : Nat) : s.extract i j = ⟨((s.data.toList.drop i).take (j - i)).toArray⟩ := by
  apply ByteArray.ext
  apply Array.toList_inj.1
  rw [ByteArray.data_extract, Array.toList_extract]
end Go.Proofs.YtjagmmmcibdibaaGreatDoor
namespace Go.Proofs
open Go.Shelf
def Tryz.lays169_ren : Go.Shelf.Ren := ⟨fun | 169 => 93 | n => n, fun | 70 => 149 | 9 => 9 | 0 => 0 | 72 => 151 | 37 => 25 | 127 => 186 | 3 => 3 | 5 => 5 | n => n, fun | n => n⟩
theorem Tryz.lays169 : Go.Proofs.Lays.n169 Tryz.prog Tryz.lays169_ren := {
  mixed := by kernel_rfl
  f169 := Tryz.func93.trans (congrArg some (by kernel_rfl))
  t0 := Tryz.underlying0
  a0 := Tryz.isAgg0
  z0 := Tryz.sizeOf0
  v0 := Tryz.zeroValue0
  t3 := Tryz.underlying3
  a3 := Tryz.isAgg3
  z3 := Tryz.sizeOf3
  v3 := Tryz.zeroValue3
  t9 := Tryz.underlying9
  a9 := Tryz.isAgg9
  z9 := Tryz.sizeOf9
  v9 := Tryz.zeroValue9
  t37 := Tryz.underlying25
  a37 := Tryz.isAgg25
  z37 := Tryz.sizeOf25
  v37 := Tryz.zeroValue25
  t70 := Tryz.underlying149
  a70 := Tryz.isAgg149
  z70 := Tryz.sizeOf149
  v70 := Tryz.zeroValue149
  t72 := Tryz.underlying151
  a72 := Tryz.isAgg151
  z72 := Tryz.sizeOf151
  v72 := Tryz.zeroValue151
  t127 := Tryz.underlying186
  a127 := Tryz.isAgg186
  z127 := Tryz.sizeOf186
  v127 := Tryz.zeroValue186 }
theorem Tryz.Builder_Extra_169 : Builder.Extra Tryz.prog Tryz.lays169_ren := {
  sizeBuilder := by kernel_rfl
  liesBuilder := by kernel_rfl
  t5 := Tryz.underlying5
  a5 := Tryz.isAgg5
  z5 := Tryz.sizeOf5
  v5 := Tryz.zeroValue5
  infoByte := by kernel_rfl
  cellsByte := by kernel_rfl
  sizeByte := by kernel_rfl
  neB5 := by decide }
open Go.RowKit in
theorem Tryz.Builder_String_any (B b : Nat) (l : List UInt8) (w : World) (h : Lib.IsBuilder 151 5 B b (Lib.byteCells l) w) (hBw : B <= w.heap.size) :
    Calls Tryz.prog 93 #[.pointer (some ⟨b, 0, none⟩)] w fun e w' => e = .returned (.string ⟨l.toArray⟩) /\ Below B w w' := Any.Builder_String_any Tryz.lays169 Tryz.Builder_Extra_169 B b l w h hBw
def Tryz.lays137_ren : Go.Shelf.Ren := ⟨fun | 137 => 191 | 217 => 196 | 266 => 211 | n => n, fun | 9 => 9 | 5 => 5 | 3 => 3 | n => n, fun | n => n⟩
theorem Tryz.lays137 : Go.Proofs.Lays.n137 Tryz.prog Tryz.lays137_ren := {
  mixed := by kernel_rfl
  f137 := Tryz.func191.trans (congrArg some (by kernel_rfl))
  f217 := Tryz.func196.trans (congrArg some (by kernel_rfl))
  f266 := Tryz.func211.trans (congrArg some (by kernel_rfl))
  t3 := Tryz.underlying3
  a3 := Tryz.isAgg3
  z3 := Tryz.sizeOf3
  v3 := Tryz.zeroValue3
  t5 := Tryz.underlying5
  a5 := Tryz.isAgg5
  z5 := Tryz.sizeOf5
  v5 := Tryz.zeroValue5
  t9 := Tryz.underlying9
  a9 := Tryz.isAgg9
  z9 := Tryz.sizeOf9
  v9 := Tryz.zeroValue9 }
open Go.RowKit in
theorem Tryz.strings_IndexByte (s : ByteArray) (c : Int) (w : World) :
    Calls Tryz.prog 191 #[.string s, .int .u8 c] w fun e w' => e = .returned (.int .i64 (Lib.indexByte s.data.toList c.toNat.toUInt8)) /\ w' = w := Any.strings_IndexByte Tryz.lays137 s c w
def Tryz.lays172_ren : Go.Shelf.Ren := ⟨fun | 172 => 189 | 244 => 208 | 245 => 202 | 247 => 221 | 279 => 215 | 280 => 216 | 281 => 217 | 282 => 218 | 287 => 201 | 316 => 222 | 171 => 91 | 205 => 223 | 321 => 213 | 322 => 214 | 243 => 124 | 246 => 158 | 283 => 185 | 284 => 186 | 285 => 187 | 286 => 188 | 129 => 204 | 317 => 203 | 318 => 205 | 319 => 206 | 320 => 207 | 337 => 219 | 338 => 220 | n => n, fun | 9 => 9 | 3 => 3 | 75 => 153 | 76 => 156 | 4 => 4 | 5 => 5 | 167 => 266 | 37 => 25 | 0 => 0 | 85 => 272 | 2 => 2 | 168 => 268 | 53 => 175 | 175 => 244 | 46 => 257 | 210 => 275 | 127 => 186 | 145 => 281 | 143 => 279 | 21 => 21 | 171 => 246 | 173 => 249 | 212 => 261 | 51 => 148 | 20 => 20 | 213 => 262 | 232 => 277 | 233 => 278 | 80 => 119 | n => n, fun | 15 => 2 | 16 => 3 | 17 => 1 | 18 => 4 | 19 => 5 | n => n⟩
theorem Tryz.lays172 : Go.Proofs.Lays.n172 Tryz.prog Tryz.lays172_ren := {
  mixed := by kernel_rfl
  f129 := Tryz.func204.trans (congrArg some (by kernel_rfl))
  f171 := Tryz.func91.trans (congrArg some (by kernel_rfl))
  f172 := Tryz.func189.trans (congrArg some (by kernel_rfl))
  f205 := Tryz.func223.trans (congrArg some (by kernel_rfl))
  f243 := Tryz.func124.trans (congrArg some (by kernel_rfl))
  f244 := Tryz.func208.trans (congrArg some (by kernel_rfl))
  f245 := Tryz.func202.trans (congrArg some (by kernel_rfl))
  f246 := Tryz.func158.trans (congrArg some (by kernel_rfl))
  f247 := Tryz.func221.trans (congrArg some (by kernel_rfl))
  f279 := Tryz.func215.trans (congrArg some (by kernel_rfl))
  f280 := Tryz.func216.trans (congrArg some (by kernel_rfl))
  f281 := Tryz.func217.trans (congrArg some (by kernel_rfl))
  f282 := Tryz.func218.trans (congrArg some (by kernel_rfl))
  f283 := Tryz.func185.trans (congrArg some (by kernel_rfl))
  f284 := Tryz.func186.trans (congrArg some (by kernel_rfl))
  f285 := Tryz.func187.trans (congrArg some (by kernel_rfl))
  f286 := Tryz.func188.trans (congrArg some (by kernel_rfl))
  f287 := Tryz.func201.trans (congrArg some (by kernel_rfl))
  f316 := Tryz.func222.trans (congrArg some (by kernel_rfl))
  f317 := Tryz.func203.trans (congrArg some (by kernel_rfl))
  f318 := Tryz.func205.trans (congrArg some (by kernel_rfl))
  f319 := Tryz.func206.trans (congrArg some (by kernel_rfl))
  f320 := Tryz.func207.trans (congrArg some (by kernel_rfl))
  f321 := Tryz.func213.trans (congrArg some (by kernel_rfl))
  f322 := Tryz.func214.trans (congrArg some (by kernel_rfl))
  f337 := Tryz.func219.trans (congrArg some (by kernel_rfl))
  f338 := Tryz.func220.trans (congrArg some (by kernel_rfl))
  t0 := Tryz.underlying0
  a0 := Tryz.isAgg0
  z0 := Tryz.sizeOf0
  v0 := Tryz.zeroValue0
  t2 := Tryz.underlying2
  a2 := Tryz.isAgg2
  z2 := Tryz.sizeOf2
  v2 := Tryz.zeroValue2
  t3 := Tryz.underlying3
  a3 := Tryz.isAgg3
  z3 := Tryz.sizeOf3
  v3 := Tryz.zeroValue3
  t4 := Tryz.underlying4
  a4 := Tryz.isAgg4
  z4 := Tryz.sizeOf4
  v4 := Tryz.zeroValue4
  t5 := Tryz.underlying5
  a5 := Tryz.isAgg5
  z5 := Tryz.sizeOf5
  v5 := Tryz.zeroValue5
  t9 := Tryz.underlying9
  a9 := Tryz.isAgg9
  z9 := Tryz.sizeOf9
  v9 := Tryz.zeroValue9
  t20 := Tryz.underlying20
  a20 := Tryz.isAgg20
  z20 := Tryz.sizeOf20
  v20 := Tryz.zeroValue20
  t21 := Tryz.underlying21
  a21 := Tryz.isAgg21
  z21 := Tryz.sizeOf21
  v21 := Tryz.zeroValue21
  t37 := Tryz.underlying25
  a37 := Tryz.isAgg25
  z37 := Tryz.sizeOf25
  v37 := Tryz.zeroValue25
  t46 := Tryz.underlying257
  a46 := Tryz.isAgg257
  z46 := Tryz.sizeOf257
  v46 := Tryz.zeroValue257
  t51 := Tryz.underlying148
  a51 := Tryz.isAgg148
  z51 := Tryz.sizeOf148
  v51 := Tryz.zeroValue148
  t53 := Tryz.underlying175
  a53 := Tryz.isAgg175
  z53 := Tryz.sizeOf175
  v53 := Tryz.zeroValue175
  t75 := Tryz.underlying153
  a75 := Tryz.isAgg153
  z75 := Tryz.sizeOf153
  v75 := Tryz.zeroValue153
  t76 := Tryz.underlying156
  a76 := Tryz.isAgg156
  z76 := Tryz.sizeOf156
  v76 := Tryz.zeroValue156
  t85 := Tryz.underlying272
  a85 := Tryz.isAgg272
  z85 := Tryz.sizeOf272
  v85 := Tryz.zeroValue272
  t127 := Tryz.underlying186
  a127 := Tryz.isAgg186
  z127 := Tryz.sizeOf186
  v127 := Tryz.zeroValue186
  t143 := Tryz.underlying279
  a143 := Tryz.isAgg279
  z143 := Tryz.sizeOf279
  v143 := Tryz.zeroValue279
  t145 := Tryz.underlying281
  a145 := Tryz.isAgg281
  z145 := Tryz.sizeOf281
  v145 := Tryz.zeroValue281
  t167 := Tryz.underlying266
  a167 := Tryz.isAgg266
  z167 := Tryz.sizeOf266
  v167 := Tryz.zeroValue266
  t168 := Tryz.underlying268
  a168 := Tryz.isAgg268
  z168 := Tryz.sizeOf268
  v168 := Tryz.zeroValue268
  t171 := Tryz.underlying246
  a171 := Tryz.isAgg246
  z171 := Tryz.sizeOf246
  v171 := Tryz.zeroValue246
  t173 := Tryz.underlying249
  a173 := Tryz.isAgg249
  z173 := Tryz.sizeOf249
  v173 := Tryz.zeroValue249
  t175 := Tryz.underlying244
  a175 := Tryz.isAgg244
  z175 := Tryz.sizeOf244
  v175 := Tryz.zeroValue244
  t210 := Tryz.underlying275
  a210 := Tryz.isAgg275
  z210 := Tryz.sizeOf275
  v210 := Tryz.zeroValue275
  t212 := Tryz.underlying261
  a212 := Tryz.isAgg261
  z212 := Tryz.sizeOf261
  v212 := Tryz.zeroValue261
  t213 := Tryz.underlying262
  a213 := Tryz.isAgg262
  z213 := Tryz.sizeOf262
  t232 := Tryz.underlying277
  a232 := Tryz.isAgg277
  z232 := Tryz.sizeOf277
  v232 := Tryz.zeroValue277
  t233 := Tryz.underlying278
  a233 := Tryz.isAgg278
  z233 := Tryz.sizeOf278
  v233 := Tryz.zeroValue278
  g15 := by kernel_rfl
  g16 := by kernel_rfl
  g17 := by kernel_rfl
  g18 := by kernel_rfl
  g19 := by kernel_rfl }
open Go.RowKit in
theorem Tryz.strconv_Atoi (s : ByteArray) (n : Int) (hl : s.size <= 18) (h : Lib.atoi s.data.toList = some n) (w : World) :
    Calls Tryz.prog 189 #[.string s] w fun e w' => e = .returned (.tuple #[.int .i64 n, .nilIface]) /\ ∃ t, w' = Lib.bytesWorld w 5 t := Any.strconv_Atoi Tryz.lays172 s n hl h w
def Tryz.laysM246_ren : Go.Shelf.Ren := ⟨fun | 246 => 158 | 283 => 185 | 284 => 186 | 285 => 187 | 286 => 188 | 129 => 204 | 317 => 203 | 318 => 205 | 319 => 206 | 320 => 207 | 337 => 219 | 338 => 220 | n => n, fun | 2 => 2 | 3 => 3 | 9 => 9 | 4 => 4 | 171 => 246 | 0 => 0 | 53 => 175 | 37 => 25 | 5 => 5 | 173 => 249 | 212 => 261 | 51 => 148 | 20 => 20 | 213 => 262 | 46 => 257 | 232 => 277 | 233 => 278 | n => n, fun | 17 => 1 | 18 => 4 | 19 => 5 | n => n⟩
def Tryz.laysM243_ren : Go.Shelf.Ren := ⟨fun | 243 => 124 | 246 => 158 | 283 => 185 | 284 => 186 | 285 => 187 | 286 => 188 | 129 => 204 | 317 => 203 | 318 => 205 | 319 => 206 | 320 => 207 | 337 => 219 | 338 => 220 | n => n, fun | 3 => 3 | 9 => 9 | 2 => 2 | 4 => 4 | 171 => 246 | 0 => 0 | 53 => 175 | 37 => 25 | 5 => 5 | 173 => 249 | 212 => 261 | 51 => 148 | 20 => 20 | 213 => 262 | 46 => 257 | 232 => 277 | 233 => 278 | n => n, fun | 17 => 1 | 18 => 4 | 19 => 5 | n => n⟩
def Tryz.laysM171_ren : Go.Shelf.Ren := ⟨fun | 171 => 91 | 243 => 124 | 246 => 158 | 283 => 185 | 284 => 186 | 285 => 187 | 286 => 188 | 129 => 204 | 317 => 203 | 318 => 205 | 319 => 206 | 320 => 207 | 337 => 219 | 338 => 220 | n => n, fun | 3 => 3 | 9 => 9 | 2 => 2 | 4 => 4 | 171 => 246 | 0 => 0 | 53 => 175 | 37 => 25 | 5 => 5 | 173 => 249 | 212 => 261 | 51 => 148 | 20 => 20 | 213 => 262 | 46 => 257 | 232 => 277 | 233 => 278 | n => n, fun | 17 => 1 | 18 => 4 | 19 => 5 | n => n⟩
theorem Tryz.laysM171 : Go.Proofs.LaysM.n171 Tryz.prog Tryz.laysM171_ren := {
  mixed := by kernel_rfl
  f129 := Tryz.func204.trans (congrArg some (by kernel_rfl))
  f171 := Tryz.func91.trans (congrArg some (by kernel_rfl))
  f243 := Tryz.func124.trans (congrArg some (by kernel_rfl))
  f246 := Tryz.func158.trans (congrArg some (by kernel_rfl))
  f283 := Tryz.func185.trans (congrArg some (by kernel_rfl))
  f284 := Tryz.func186.trans (congrArg some (by kernel_rfl))
  f285 := Tryz.func187.trans (congrArg some (by kernel_rfl))
  f286 := Tryz.func188.trans (congrArg some (by kernel_rfl))
  f317 := Tryz.func203.trans (congrArg some (by kernel_rfl))
  f318 := Tryz.func205.trans (congrArg some (by kernel_rfl))
  f319 := Tryz.func206.trans (congrArg some (by kernel_rfl))
  f320 := Tryz.func207.trans (congrArg some (by kernel_rfl))
  f337 := Tryz.func219.trans (congrArg some (by kernel_rfl))
  f338 := Tryz.func220.trans (congrArg some (by kernel_rfl))
  t0 := Tryz.underlying0
  a0 := Tryz.isAgg0
  z0 := Tryz.sizeOf0
  v0 := Tryz.zeroValue0
  t2 := Tryz.underlying2
  a2 := Tryz.isAgg2
  z2 := Tryz.sizeOf2
  v2 := Tryz.zeroValue2
  t3 := Tryz.underlying3
  a3 := Tryz.isAgg3
  z3 := Tryz.sizeOf3
  v3 := Tryz.zeroValue3
  t4 := Tryz.underlying4
  a4 := Tryz.isAgg4
  z4 := Tryz.sizeOf4
  v4 := Tryz.zeroValue4
  t5 := Tryz.underlying5
  a5 := Tryz.isAgg5
  z5 := Tryz.sizeOf5
  v5 := Tryz.zeroValue5
  t9 := Tryz.underlying9
  a9 := Tryz.isAgg9
  z9 := Tryz.sizeOf9
  v9 := Tryz.zeroValue9
  t20 := Tryz.underlying20
  a20 := Tryz.isAgg20
  z20 := Tryz.sizeOf20
  v20 := Tryz.zeroValue20
  t37 := Tryz.underlying25
  a37 := Tryz.isAgg25
  z37 := Tryz.sizeOf25
  v37 := Tryz.zeroValue25
  t46 := Tryz.underlying257
  a46 := Tryz.isAgg257
  z46 := Tryz.sizeOf257
  v46 := Tryz.zeroValue257
  t51 := Tryz.underlying148
  a51 := Tryz.isAgg148
  z51 := Tryz.sizeOf148
  v51 := Tryz.zeroValue148
  t53 := Tryz.underlying175
  a53 := Tryz.isAgg175
  z53 := Tryz.sizeOf175
  v53 := Tryz.zeroValue175
  t171 := Tryz.underlying246
  a171 := Tryz.isAgg246
  z171 := Tryz.sizeOf246
  v171 := Tryz.zeroValue246
  t173 := Tryz.underlying249
  a173 := Tryz.isAgg249
  z173 := Tryz.sizeOf249
  v173 := Tryz.zeroValue249
  t212 := Tryz.underlying261
  a212 := Tryz.isAgg261
  z212 := Tryz.sizeOf261
  v212 := Tryz.zeroValue261
  t213 := Tryz.underlying262
  a213 := Tryz.isAgg262
  z213 := Tryz.sizeOf262
  t232 := Tryz.underlying277
  a232 := Tryz.isAgg277
  z232 := Tryz.sizeOf277
  v232 := Tryz.zeroValue277
  t233 := Tryz.underlying278
  a233 := Tryz.isAgg278
  z233 := Tryz.sizeOf278
  v233 := Tryz.zeroValue278
  g17 := by kernel_rfl
  g18 := by kernel_rfl
  g19 := by kernel_rfl
  i0 := by kernel_rfl
  i2 := by kernel_rfl
  i3 := by kernel_rfl
  i4 := by kernel_rfl
  i5 := by kernel_rfl
  i9 := by kernel_rfl
  i20 := by kernel_rfl
  i37 := by kernel_rfl
  i46 := by kernel_rfl
  i51 := by kernel_rfl
  i53 := by kernel_rfl
  i171 := by kernel_rfl
  i173 := by kernel_rfl
  i212 := by kernel_rfl
  i232 := by kernel_rfl
  i233 := by kernel_rfl
  m17 := by kernel_rfl
  m18 := by kernel_rfl
  m19 := by kernel_rfl }
open Go.RowKit Go.Sort Go.Lib in
theorem Tryz.strconv_Itoa (n : Int) (h0 : -9223372036854775808 <= n) (h1 : n <= 9223372036854775807) (w : World) (htab : Lib.TabIs Tryz.prog w "internal/strconv.uint64pow10" .u64 Lib.pow10Tab) :
    Calls Tryz.prog 91 #[.int .i64 n] w fun e w' => e = .returned (.string ⟨(Lib.itoa n).toArray⟩) /\ ∃ k os, w' = grow (w.drewN k) os := Any.strconv_Itoa Tryz.laysM171 n h0 h1 w htab
end Go.Proofs
namespace Go.Proofs.YtjagmmmcibdibaaGreatDoor
open Go.RowKit
def Sg (s : ByteArray) (k : Int) : Array Value := #[.string s, .int .i64 k, .func (.func 190) #[.agg #[.int .u8 97, .int .u8 122]] #[], .func (.func 190) #[.agg #[.int .u8 48, .int .u8 57]] #[], .func (.func 190) #[.agg #[.int .u8 95, .int .u8 95]] #[]]
def J8 (w : World) (b : Nat) (s : ByteArray) (k : Int) : Prop := w.heap[b]? = some (.cells (Sg s k) 232 (0, 0))
theorem Dd {w : World} {b : Nat} {C : Array Value} {t : TypeId} {fr : Nat × Nat} (h : w.heap[b]? = some (.cells C t fr)) (i : Nat) : w.cell? ⟨b, i, none⟩ = C[i]? := by
  simp [World.cell?, h]
theorem Fq {w : World} {b : Nat} {C : Array Value} {t : TypeId} (h : w.heap[b]? = some (.cells C t (0, 0))) (i : Nat) : w.frozen? ⟨b, i, none⟩ = false := by
  simp [World.frozen?, h]
theorem B6 {w : World} {b : Nat} {o : Obj} (h : w.heap[b]? = some o) : b < w.heap.size := by
  rcases Nat.lt_or_ge b w.heap.size with h1 | h1
  . exact h1
  . rw [Array.getElem?_eq_none h1] at h; cases h
theorem J8.cells {w : World} {b : Nat} {s : ByteArray} {k : Int} (h : J8 w b s k) :
    w.cell? ⟨b, 0, none⟩ = some (.string s) /\ w.cell? ⟨b, 1, none⟩ = some (.int .i64 k) /\ w.frozen? ⟨b, 1, none⟩ = false :=
  ⟨Dd h 0, Dd h 1, Fq h 1⟩
theorem J8.tests {w : World} {b : Nat} {s : ByteArray} {k : Int} (h : J8 w b s k) :
    w.cell? ⟨b, 2, none⟩ = some (.func (.func 190) #[.agg #[.int .u8 97, .int .u8 122]] #[]) /\ w.cell? ⟨b, 3, none⟩ = some (.func (.func 190) #[.agg #[.int .u8 48, .int .u8 57]] #[]) /\ w.cell? ⟨b, 4, none⟩ = some (.func (.func 190) #[.agg #[.int .u8 95, .int .u8 95]] #[]) :=
  ⟨Dd h 2, Dd h 3, Dd h 4⟩
theorem J8.below {W w1 : World} {b : Nat} {s : ByteArray} {k : Int} (hb : Below W.heap.size W w1) (h : J8 W b s k) : J8 w1 b s k := (hb.block b (B6 h)).trans h
theorem J8.set {w : World} {b : Nat} {s : ByteArray} {k : Int} (h : J8 w b s k) (k' : Int) : J8 (w.setCell ⟨b, 1, none⟩ (.int .i64 k')) b s k' := by
  have h' := h
  unfold J8 at h h' |-
  simp only [World.setCell, Array.getElem?_modify, h', if_true, Option.map_some]
  rfl
theorem G8 {a w w1 : World} {b : Nat} (h : a.grownBy w (some b)) (hb : Below w.heap.size w w1) : a.grownBy w1 (some b) :=
  ⟨hb.os.trans h.os, hb.tape.trans h.tape, hb.output.trans h.output, Nat.le_trans h.size hb.size, fun i hi hn => (hb.block i (Nat.lt_of_lt_of_le hi h.size)).trans (h.block i hi hn)⟩
theorem Jh {a w : World} {b : Nat} (h : a.grownBy w (some b)) (o : Nat) (u : Value) : a.grownBy (w.setCell ⟨b, o, none⟩ u) (some b) :=
  ⟨h.os, h.tape, h.output, by simpa [World.setCell] using h.size, fun i hi hne => (Below.heap_setCell w ⟨b, o, none⟩ u i (by rintro rfl; exact hne rfl)).trans (h.block i hi hne)⟩
theorem Agi (w : World) (r : Option Nat) : w.grownBy w r := World.grownBy.refl w _
def Ace (w : World) (b : Nat) : Nat := match w.cell? ⟨b, 1, none⟩ with | some (.int _ n) => n.toNat | _ => 0
theorem Sd {w : World} {b : Nat} {s : ByteArray} {k : Nat} (h : J8 w b s k) : Ace w b = k := by
  unfold Ace; rw [h.cells.2.1]; simp
set_option maxHeartbeats 1000000 in
theorem Agx (b : Nat) (s : ByteArray) (k : Int) (c : UInt8) (w : World) (hR : J8 w b s k) :
    Calls Tryz.prog 192 #[.pointer (some ⟨b, 0, none⟩), .int .u8 (c.toNat : Int)] w fun e w' => e = .returned (.bool (Dg c)) /\ Below w.heap.size w w' := by
  obtain ⟨t0, t1, t2⟩ := hR.tests
  have hcase : (97 <= (c.toNat : Int) /\ (c.toNat : Int) <= 122) \/ ((c.toNat : Int) < 97 \/ 122 < (c.toNat : Int)) := by omega
  have hcase2 : (48 <= (c.toNat : Int) /\ (c.toNat : Int) <= 57) \/ ((c.toNat : Int) < 48 \/ 57 < (c.toNat : Int)) := by omega
  have hcase3 : (95 <= (c.toNat : Int) /\ (c.toNat : Int) <= 95) \/ ((c.toNat : Int) < 95 \/ 95 < (c.toNat : Int)) := by omega
  have hlt := B6 hR
  rcases hcase with hc | hc
  . have HF : Hid (Dg c = true) := Lib.hid (by simp [Dg, Lw hc])
    go_enter Tryz.func192, Tryz.ntmps192
    go_wp2_with (go_at_call 190; refine (Gs _ _ _ _ (by omega)).mono ?_; rintro e w1 ⟨rfl, hb1⟩)
    go_ret
    exact ⟨By HF.out.symm, hb1⟩
  . rcases hcase2 with hd | hd
    . have HF : Hid (Dg c = true) := Lib.hid (by simp [Dg, N6 hd])
      go_enter Tryz.func192, Tryz.ntmps192
      go_wp2_with fail
      refine (G3 _ _ _ _ (by omega)).mono ?_
      rintro e w1 ⟨rfl, hb1⟩
      have u1 := Az hb1 t1
      go_wp2_with fail
      refine (Gs _ _ _ _ (by omega)).mono ?_
      rintro e w2 ⟨rfl, hb2⟩
      go_wp2
      go_ret
      exact ⟨By HF.out.symm, hb1.trans (hb2.mono hb1.size)⟩
    . rcases hcase3 with hu | hu
      . have HF : Hid (Dg c = true) := Lib.hid (by simp [Dg, Wo hu])
        go_enter Tryz.func192, Tryz.ntmps192
        go_wp2_with fail
        refine (G3 _ _ _ _ (by omega)).mono ?_
        rintro e w1 ⟨rfl, hb1⟩
        have u1 := Az hb1 t1
        have u2 := Az hb1 t2
        go_wp2_with fail
        refine (G3 _ _ _ _ (by omega)).mono ?_
        rintro e w2 ⟨rfl, hb2⟩
        have v2 := Az hb2 u2
        go_wp2_with fail
        refine (Gs _ _ _ _ (by omega)).mono ?_
        rintro e w3 ⟨rfl, hb3⟩
        go_wp2
        go_ret
        have h2 := hb1.trans (hb2.mono hb1.size)
        exact ⟨By HF.out.symm, h2.trans (hb3.mono h2.size)⟩
      . have HF : Hid (Dg c = false) := Lib.hid (by simp [Dg, J4 hc, Lr hd, Qy hu])
        go_enter Tryz.func192, Tryz.ntmps192
        go_wp2_with fail
        refine (G3 _ _ _ _ (by omega)).mono ?_
        rintro e w1 ⟨rfl, hb1⟩
        have u1 := Az hb1 t1
        have u2 := Az hb1 t2
        go_wp2_with fail
        refine (G3 _ _ _ _ (by omega)).mono ?_
        rintro e w2 ⟨rfl, hb2⟩
        have v2 := Az hb2 u2
        go_wp2_with fail
        refine (G3 _ _ _ _ (by omega)).mono ?_
        rintro e w3 ⟨rfl, hb3⟩
        go_wp2
        go_ret
        have h2 := hb1.trans (hb2.mono hb1.size)
        exact ⟨By HF.out.symm, h2.trans (hb3.mono h2.size)⟩
end Go.Proofs.YtjagmmmcibdibaaGreatDoor
namespace Go.Proofs.YtjagmmmcibdibaaGreatDoor
open Go.RowKit
theorem Xd {a b : UInt8} (h : a ≠ b) : ((a.toNat : Int) == (b.toNat : Int)) = false := by rw [byte_beq]; exact beq_eq_false_iff_ne.2 h
theorem skip_end {l : List UInt8} {k : Nat} (h : l.length <= k) : A9 false (l.drop k) = l.drop k := by
  rw [List.drop_eq_nil_of_le h]; rfl
theorem K6 {w : World} {b : Nat} {s : ByteArray} {k : Int} (h : J8 w b s k) (n : Int) : Ace (w.setCell ⟨b, 1, none⟩ (.int .i64 n)) b = n.toNat := by
  unfold Ace; rw [(h.set n).cells.2.1]
theorem index_nl (s : ByteArray) (k : Nat) (j : Int) (w : World) (hj : Lib.indexByte (s.data.toList.drop k) 10 = j) :
    Calls Tryz.prog 191 #[.string (s.extract k s.size), .int .u8 10] w fun e w' => e = .returned (.int .i64 j) /\ Below w.heap.size w w' :=
  (Tryz.strings_IndexByte (s.extract k s.size) 10 w).mono fun e w' ⟨he, hw⟩ => ⟨by rw [he, Lib.extract_to_end, <- hj]; rfl, by rw [hw]; exact Below.refl _ _⟩
def SkipPost (b : Nat) (s : ByteArray) (k : Nat) (w : World) (e : Ending) (w' : World) : Prop :=
  e = .returned (.tuple #[]) /\ J8 w' b s (M4 s.data.toList k) /\ w.grownBy w' (some b)
def Ado (b : Nat) (s : ByteArray) (k : Nat) (w : World) (wr : World) : Prop :=
  ∃ k' : Nat, k <= k' /\ k' <= s.size /\ J8 wr b s k' /\ A9 false (s.data.toList.drop k') = A9 false (s.data.toList.drop k) /\ w.grownBy wr (some b)
set_option maxRecDepth 100000 in
set_option maxHeartbeats 4000000 in
theorem Aay (b : Nat) (s : ByteArray) (k : Nat) (w : World) (hs : s.size <= 1000000) (hk : k <= s.size) (hR : J8 w b s k) :
    Calls Tryz.prog 170 #[.pointer (some ⟨b, 0, none⟩)] w (SkipPost b s k w) := by
  have hstart : Ado b s k w w := ⟨k, Nat.le_refl _, hk, hR, rfl, Agi _ _⟩
  have HS := Lib.hid hstart
  clear hR hk hstart
  go_enter Tryz.func170, Tryz.ntmps170
  go_wp2
  go_loopw [2] (fun _ wr => Ado b s k w wr) (fun _ wr => s.size - Ace wr b)
  case atStart => exact HS.out
  case round =>
    clear HS
    obtain ⟨k', hk1, hk2, hR, hsk, hO⟩ := hrel
    have HK := Lib.hid hsk
    have HR := Lib.hid hR
    have HP := Lib.hid (Sd hR)
    have c0 : ∀ x : Later wr, x.world.cell? ⟨b, 0, none⟩ = some (.string s) := Bn hR.cells.1
    have c1 : ∀ x : Later wr, x.world.cell? ⟨b, 1, none⟩ = some (.int .i64 (k' : Int)) := Bn hR.cells.2.1
    clear hsk hR
    by_cases hlt : k' < s.size
    . go_wp2_with fail
      refine Ax (by kernel_rfl) (by kernel_rfl) ?_
      repeat (go_big_quiet_step (fail))
      refine wpQuiet_nil ?_
      intro w1 hb1
      have HR1 := Lib.hid (HR.out.below hb1)
      clear c0 c1
      have d0 : ∀ x : Later w1, x.world.cell? ⟨b, 0, none⟩ = some (.string s) := Bn HR1.out.cells.1
      have d1 : ∀ x : Later w1, x.world.cell? ⟨b, 1, none⟩ = some (.int .i64 (k' : Int)) := Bn HR1.out.cells.2.1
      go_wp2_with fail
      refine Ax (by kernel_rfl) (by kernel_rfl) ?_
      repeat (go_big_quiet_step (fail))
      refine wpQuiet_nil ?_
      intro w2 hb2
      have HR2 := Lib.hid (HR1.out.below hb2)
      have HO2 : Hid (w.grownBy w2 (some b)) := Lib.hid (G8 (G8 hO hb1) hb2)
      clear d0 d1 HR HR1 hb1 hb2 hO
      have e0 := HR2.out.cells.1
      have e1 := HR2.out.cells.2.1
      have e2 := HR2.out.cells.2.2
      have hl : k' < s.data.toList.length := by simpa using hlt
      have g1 : (k' : Int) + 1 <= 9223372036854775807 := by omega
      by_cases h32 : s[k'] = 32
      . have f1 : ((s[k'].toNat : Int) == 32) = true := by rw [h32]; rfl
        have HN : Hid (A9 false (s.data.toList.drop (k' + 1)) = A9 false (s.data.toList.drop k)) := Lib.hid ((Qq hl (.inl h32)).symm.trans HK.out)
        clear h32
        go_wp2
        go_roundw
        case rel => exact ⟨k' + 1, by omega, by omega, HR2.out.set _, HN.out, Jh HO2.out _ _⟩
        case measure => rw [K6 HR2.out, HP.out]; omega
      . have f1 : ((s[k'].toNat : Int) == 32) = false := Xd h32
        by_cases h10 : s[k'] = 10
        . have f2 : ((s[k'].toNat : Int) == 10) = true := by rw [h10]; rfl
          have HN : Hid (A9 false (s.data.toList.drop (k' + 1)) = A9 false (s.data.toList.drop k)) := Lib.hid ((Qq hl (.inr h10)).symm.trans HK.out)
          clear h32 h10
          go_wp2
          go_roundw
          case rel => exact ⟨k' + 1, by omega, by omega, HR2.out.set _, HN.out, Jh HO2.out _ _⟩
          case measure => rw [K6 HR2.out, HP.out]; omega
        . have f2 : ((s[k'].toNat : Int) == 10) = false := Xd h10
          by_cases h35 : s[k'] = 35
          . have f3 : ((s[k'].toNat : Int) == 35) = true := by rw [h35]; rfl
            have HC := Lib.hid h35
            clear h32 h10 h35
            obtain ⟨j, hj⟩ : ∃ j, Lib.indexByte (s.data.toList.drop k') 10 = j := ⟨_, rfl⟩
            have HJ := Lib.hid hj
            clear hj
            have d0 : ∀ x : Later w2, x.world.cell? ⟨b, 0, none⟩ = some (.string s) := Bn HR2.out.cells.1
            have d1 : ∀ x : Later w2, x.world.cell? ⟨b, 1, none⟩ = some (.int .i64 (k' : Int)) := Bn HR2.out.cells.2.1
            go_wp2_with fail
            refine Ax (by kernel_rfl) (by kernel_rfl) ?_
            repeat (go_big_quiet_step ((go_at_call 191; exact Calls.later_of (index_nl _ _ _ _ HJ.out))))
            refine wpQuiet_nil ?_
            intro w3 hb3
            have HR3 := Lib.hid (HR2.out.below hb3)
            have HO3 : Hid (w.grownBy w3 (some b)) := Lib.hid (G8 HO2.out hb3)
            clear d0 d1 e0 e1 e2 HO2 hb3
            by_cases hneg : j < 0
            . have HN : Hid (A9 false (s.data.toList.drop s.size) = A9 false (s.data.toList.drop k)) := Lib.hid (by
                have h := L8 hl HC.out (Ro (by rw [HJ.out]; exact hneg))
                have e : s.data.toList.length = s.size := by simp
                rw [e] at h
                exact h.symm.trans HK.out)
              have d0 : ∀ x : Later w3, x.world.cell? ⟨b, 0, none⟩ = some (.string s) := Bn HR3.out.cells.1
              have d1 : ∀ x : Later w3, x.world.cell? ⟨b, 1, none⟩ = some (.int .i64 (k' : Int)) := Bn HR3.out.cells.2.1
              go_wp2_with fail
              refine Ax (by kernel_rfl) (by kernel_rfl) ?_
              repeat (go_big_quiet_step (fail))
              refine wpQuiet_nil ?_
              intro w4 hb4
              have HR4 := Lib.hid (HR3.out.below hb4)
              have HO4 : Hid (w.grownBy w4 (some b)) := Lib.hid (G8 HO3.out hb4)
              clear d0 d1 hb4 HO3 HR3 HR2
              have e0 := HR4.out.cells.1
              have e1 := HR4.out.cells.2.1
              have e2 := HR4.out.cells.2.2
              have hz : (k' : Int) + ((s.size : Int) - (k' : Int)) = s.size := by omega
              go_wp2
              go_roundw
              case rel => exact ⟨s.size, by omega, by omega, HR4.out.set _, HN.out, Jh HO4.out _ _⟩
              case measure => rw [K6 HR4.out, HP.out]; omega
            . have hx := L9 hl HC.out (by rw [HJ.out]; exact hneg)
              obtain ⟨jn, hj1, hj2, hj3, hj4⟩ := hx
              have HN := Lib.hid (hj4.symm.trans HK.out)
              have hj5 : s.data.toList.length = s.size := by simp
              rw [hj5] at hj3
              have HE : Hid (j = jn) := Lib.hid (HJ.out.symm.trans hj1)
              have hb1 : (k' : Int) + j < s.size := by have := HE.out; omega
              have hb2 : 0 < j := by have := HE.out; omega
              have HT : Hid ((k' : Int) + j = ((k' + jn : Nat) : Int)) := Lib.hid (by have := HE.out; omega)
              clear hj1 hj4 hj5 HJ
              have e0 := HR3.out.cells.1
              have e1 := HR3.out.cells.2.1
              have e2 := HR3.out.cells.2.2
              go_wp2
              go_roundw
              case rel => exact ⟨k' + jn, by omega, by omega, by rw [HT.out]; exact HR3.out.set _, HN.out, Jh HO3.out _ _⟩
              case measure => rw [K6 HR3.out, HP.out]; omega
          . have f3 : ((s[k'].toNat : Int) == 35) = false := Xd h35
            have HN : Hid (M4 s.data.toList k = k') := Lib.hid (Aax HK.out (Acv hl h32 h10 h35) (by omega))
            clear h32 h10 h35
            go_wp2
            go_end0
            exact ⟨rfl, by rw [HN.out]; exact HR2.out, HO2.out⟩
    . have HN : Hid (M4 s.data.toList k = k') := Lib.hid (Aax HK.out (skip_end (by simp; omega)) (by simp; omega))
      go_wp2_with fail
      refine Ax (by kernel_rfl) (by kernel_rfl) ?_
      repeat (go_big_quiet_step (fail))
      refine wpQuiet_nil ?_
      intro w1 hb1
      go_wp2
      go_end0
      exact ⟨rfl, by rw [HN.out]; exact HR.out.below hb1, G8 hO hb1⟩
end Go.Proofs.YtjagmmmcibdibaaGreatDoor
namespace Go.Proofs.YtjagmmmcibdibaaGreatDoor
open Go.RowKit
structure Tok where
  kind : Int
  text : List UInt8
  pos : Nat
deriving DecidableEq
def Ds (n : Nat) : Nat -> List UInt8 -> List Tok -> List Tok × Nat × Int
  | 0, _, acc => (acc, 0, 0)
  | f + 1, l, acc =>
    if A9 false l = [] then (acc, 0, 0)
    else if C3 (Ep (A9 false l)).1 (Ep (A9 false l)).2 = false then ([], n - (A9 false l).length, 340)
    else if acc.length = 2000 then ([], n - (A9 false l).length, 3)
    else Ds n f ((A9 false l).drop (Ep (A9 false l)).2.length) (acc ++ [⟨(Ep (A9 false l)).1, (Ep (A9 false l)).2, n - (A9 false l).length⟩])
def Gx (l : List UInt8) : List Tok × Nat × Int := if 20000 < l.length then ([], 0, 3) else Ds l.length (l.length + 1) l []
theorem L7 (b : Bool) (l : List UInt8) : A9 false (A9 b l) = A9 b l := by
  induction l generalizing b with
  | nil => cases b <;> simp [A9]
  | cons c t ih =>
    cases b
    . simp only [A9]
      split
      . exact ih false
      . split
        . exact ih true
        . rename_i h1 h2
          simp [A9, h1, h2]
    . simp only [A9]
      split
      . exact ih false
      . exact ih true
theorem Qo (n f : Nat) (l : List UInt8) (acc : List Tok) : Ds n (f + 1) (A9 false l) acc = Ds n (f + 1) l acc := by
  simp only [Ds, L7]
theorem Aha {kd : Int} {tx : List UInt8} (h : C3 kd tx = true) : tx ≠ [] := by
  rintro rfl
  unfold C3 at h
  split at h
  . simp [Lz, M7] at h
  . split at h
    . revert h; decide
    . split at h
      . revert h; decide
      . split at h
        . revert h; decide
        . cases h
theorem Ahh {n f : Nat} {l : List UInt8} {acc : List Tok} (hs : A9 false l = l) (hl : l ≠ []) (h : C3 (Ep l).1 (Ep l).2 = false) : Ds n (f + 1) l acc = ([], n - l.length, 340) := by
  rw [Ds, hs, if_neg hl, if_pos h]
theorem Acp {n f : Nat} {l : List UInt8} {acc : List Tok} (hs : A9 false l = l) (hl : l ≠ []) (h : C3 (Ep l).1 (Ep l).2 = true) (ha : acc.length = 2000) : Ds n (f + 1) l acc = ([], n - l.length, 3) := by
  rw [Ds, hs, if_neg hl, if_neg (by rw [h]; simp), if_pos ha]
theorem Acq {n f : Nat} {l : List UInt8} {acc : List Tok} (hs : A9 false l = l) (hl : l ≠ []) (h : C3 (Ep l).1 (Ep l).2 = true) (ha : acc.length ≠ 2000) :
    Ds n (f + 1) l acc = Ds n f (l.drop (Ep l).2.length) (acc ++ [⟨(Ep l).1, (Ep l).2, n - l.length⟩]) := by
  rw [Ds, hs, if_neg hl, if_neg (by rw [h]; simp), if_neg ha]
theorem Ahi {n f : Nat} {acc : List Tok} : Ds n (f + 1) [] acc = (acc, 0, 0) := by
  rw [Ds]; simp [A9]
def Cs (l : List UInt8) : ByteArray := ⟨l.toArray⟩
theorem Tx (s : ByteArray) : Cs s.data.toList = s := by
  apply ByteArray.ext; simp [Cs]
theorem U6 (l : List UInt8) : (Cs l).data.toList = l := by simp [Cs]
theorem Abs {s : ByteArray} {l : List UInt8} (h : s.data.toList = l) : s = Cs l := by rw [<- h, Tx]
def Tok.cells (t : Tok) : List Value := [.int .i64 t.kind, .string (Cs t.text), .int .i64 (t.pos : Int)]
def Tok.val (t : Tok) : Value := .agg #[.int .i64 t.kind, .string (Cs t.text), .int .i64 (t.pos : Int)]
def El (l : List Tok) : List Value := l.flatMap Tok.cells
theorem S9 (l : List Tok) (t : Tok) : El (l ++ [t]) = El l ++ t.cells := by simp [El]
end Go.Proofs.YtjagmmmcibdibaaGreatDoor
namespace Go.Proofs.YtjagmmmcibdibaaGreatDoor
open Go.RowKit
theorem Ael {s : ByteArray} {k e : Nat} (h : e < s.size) (hk : k <= e) {h' : e - k < (s.data.toList.drop k).length} : (s.data.toList.drop k)[e - k] = s[e] := by
  rw [List.getElem_drop]
  simp only [show k + (e - k) = e from by omega]
  rfl
def Di (w : World) (t : Nat) (kd : Int) (tx : ByteArray) (k : Int) : Prop := w.heap[t]? = some (.cells #[.int .i64 kd, .string tx, .int .i64 k] 141 (0, 0))
theorem Di.cells {w : World} {t : Nat} {kd k : Int} {tx : ByteArray} (h : Di w t kd tx k) :
    w.cell? ⟨t, 0, none⟩ = some (.int .i64 kd) /\ w.cell? ⟨t, 1, none⟩ = some (.string tx) /\ w.cell? ⟨t, 2, none⟩ = some (.int .i64 k) :=
  ⟨Dd h 0, Dd h 1, Dd h 2⟩
theorem Di.free {w : World} {t : Nat} {kd k : Int} {tx : ByteArray} (h : Di w t kd tx k) :
    w.frozen? ⟨t, 0, none⟩ = false /\ w.frozen? ⟨t, 1, none⟩ = false /\ w.frozen? ⟨t, 2, none⟩ = false :=
  ⟨Fq h 0, Fq h 1, Fq h 2⟩
theorem Di.below {W w1 : World} {t : Nat} {kd k : Int} {tx : ByteArray} (hb : Below W.heap.size W w1) (h : Di W t kd tx k) : Di w1 t kd tx k := (hb.block t (B6 h)).trans h
theorem Ta (w : World) (kd : Int) (tx : ByteArray) (k : Int) : Di (w.alloc (.cells #[.int .i64 kd, .string tx, .int .i64 k] 141)) w.heap.size kd tx k := heap_alloc_new w _
theorem Qb (c : UInt8) (w : World) : Calls Tryz.prog 190 #[.agg #[.int .u8 97, .int .u8 122], .int .u8 (c.toNat : Int)] w fun e w' => e = .returned (.bool (D0 c)) /\ Below w.heap.size w w' :=
  (Rl 97 122 _ w).mono fun e w' ⟨he, hw⟩ => ⟨he, by rw [<- hw]; exact (Below.refl _ _).alloc (Nat.le_refl _) _⟩
theorem Ur (c : UInt8) (w : World) : Calls Tryz.prog 190 #[.agg #[.int .u8 48, .int .u8 57], .int .u8 (c.toNat : Int)] w fun e w' => e = .returned (.bool (F9 c)) /\ Below w.heap.size w w' :=
  (Rl 48 57 _ w).mono fun e w' ⟨he, hw⟩ => ⟨he, by rw [<- hw]; exact (Below.refl _ _).alloc (Nat.le_refl _) _⟩
theorem Di.set0 {w : World} {t : Nat} {kd k : Int} {tx : ByteArray} (h : Di w t kd tx k) (kd' : Int) : Di (w.setCell ⟨t, 0, none⟩ (.int .i64 kd')) t kd' tx k := by
  have h' := h
  unfold Di at h h' |-
  simp only [World.setCell, Array.getElem?_modify, h', if_true, Option.map_some]
  rfl
theorem Di.set1 {w : World} {t : Nat} {kd k : Int} {tx : ByteArray} (h : Di w t kd tx k) (tx' : ByteArray) : Di (w.setCell ⟨t, 1, none⟩ (.string tx')) t kd tx' k := by
  have h' := h
  unfold Di at h h' |-
  simp only [World.setCell, Array.getElem?_modify, h', if_true, Option.map_some]
  rfl
theorem Ln {P : Program} {c : Code} {Q : Exit -> Act -> World -> Prop} {a : Act} {W : World} (F : World -> Prop) (h : F W) (k : ∀ w', F w' -> c.wp P Q a w') : c.wp P Q a W := k W h
theorem Fw (w : World) (j : Nat) (h : j < 23) : (w.alloc (.cells Fd 9)).drew.cell? ⟨w.heap.size, j, none⟩ = some (.string (Cz.getD j ByteArray.empty)) := J7 w j h
theorem Ft (w : World) (j : Nat) (h : j < 21) : (w.alloc (.cells E9 9)).drew.cell? ⟨w.heap.size, j, none⟩ = some (.string (Dn.getD j ByteArray.empty)) := O3 w j h
theorem Hu {s : ByteArray} {k : Nat} (hk : k < s.size) (h : D0 s[k] = true) :
    Ep (s.data.toList.drop k) = (if Tn En ((s.data.toList.drop k).takeWhile Dg) then 2 else 1, (s.data.toList.drop k).takeWhile Dg) := by
  have hh : (s.data.toList.drop k).head? = some s[k] := by rw [List.head?_drop, List.getElem?_eq_getElem (by simpa using hk)]; rfl
  rw [Ep, hh, if_pos (by simpa using h)]
theorem Qk {s : ByteArray} {k : Nat} (hk : k < s.size) (h : D0 s[k] = false) (h2 : F9 s[k] = true) :
    Ep (s.data.toList.drop k) = (3, (s.data.toList.drop k).takeWhile Dg) := by
  have hh : (s.data.toList.drop k).head? = some s[k] := by rw [List.head?_drop, List.getElem?_eq_getElem (by simpa using hk)]; rfl
  rw [Ep, hh, if_neg (by simp [h]), if_pos (by simpa using h2)]
theorem Vo {s : ByteArray} {k : Nat} (hk : k < s.size) (h : D0 s[k] = false) (h2 : F9 s[k] = false) :
    Ep (s.data.toList.drop k) = (4, if Tn Ej ((s.data.toList.drop k).take 2) then (s.data.toList.drop k).take 2 else (s.data.toList.drop k).take 1) := by
  have hh : (s.data.toList.drop k).head? = some s[k] := by rw [List.head?_drop, List.getElem?_eq_getElem (by simpa using hk)]; rfl
  rw [Ep, hh, if_neg (by simp [h]), if_neg (by simp [h2])]
theorem N8 {s : ByteArray} {k : Nat} (hk : k < s.size) : (s.extract k (min ((k : Int) + 2) s.size).toNat).data.toList = (s.data.toList.drop k).take 2 := by
  rw [Df]
  show (s.data.toList.drop k).take _ = _
  rcases Nat.lt_or_ge s.size (k + 2) with h | h
  . rw [List.take_of_length_le (by simp; omega), List.take_of_length_le (by simp; omega)]
  . rw [show (min ((k : Int) + 2) s.size).toNat - k = 2 from by omega]
theorem Aa5 {s x : ByteArray} {k : Nat} (hk : k < s.size) (h : x.data.toList = (s.data.toList.drop k).take 2) : 1 <= x.size := by
  have h1 : x.data.toList.length = x.size := by simp
  rw [h] at h1
  simp at h1
  omega
theorem R1 {s tx : ByteArray} {k : Nat} (h : tx.data.toList = (Ep (s.data.toList.drop k)).2) : tx.size <= s.size - k := by
  have h1 : tx.data.toList.length = tx.size := by simp
  have h2 : (Ep (s.data.toList.drop k)).2.length <= (s.data.toList.drop k).length := by
    have h3 : ((s.data.toList.drop k).takeWhile Dg).length <= (s.data.toList.drop k).length := (List.takeWhile_sublist _).length_le
    have h4 : ∀ n, ((s.data.toList.drop k).take n).length <= (s.data.toList.drop k).length := fun n => List.length_take_le' _ _
    unfold Ep
    split
    . exact h3
    . split
      . exact h3
      . split
        . exact h4 2
        . exact h4 1
  rw [<- h, h1] at h2
  simpa using h2
def CutRel (s : ByteArray) (k : Nat) (w1 w' : World) : Prop :=
  ∃ tx : ByteArray, Di w' w1.heap.size (Ep (s.data.toList.drop k)).1 tx k /\ tx.data.toList = (Ep (s.data.toList.drop k)).2 /\ Below w1.heap.size w1 w'
def NextPost (b : Nat) (s : ByteArray) (k : Nat) (w : World) (e : Ending) (w' : World) : Prop :=
  (C3 (Ep (s.data.toList.drop k)).1 (Ep (s.data.toList.drop k)).2 = true /\ ∃ tx : ByteArray, tx.data.toList = (Ep (s.data.toList.drop k)).2 /\
    e = .returned (.agg #[.int .i64 (Ep (s.data.toList.drop k)).1, .string tx, .int .i64 k]) /\ J8 w' b s ((k : Int) + (Ep (s.data.toList.drop k)).2.length) /\ w.grownBy w' (some b)) \/
  (C3 (Ep (s.data.toList.drop k)).1 (Ep (s.data.toList.drop k)).2 = false /\ e = .panicked [{ v := .iface 196 (.agg #[.int .i64 k]), recovered := false }] /\ w.grownBy w' (some b))
theorem J8.far {w : World} {b t : Nat} {s : ByteArray} {k : Int} (h : J8 w b s k) (hne : ¬ b = t) (o : Nat) (u : Value) : J8 (w.setCell ⟨t, o, none⟩ u) b s k := (Below.heap_setCell w ⟨t, o, none⟩ u b hne).trans h
theorem Di.far {w : World} {b t : Nat} {kd k : Int} {tx : ByteArray} (h : Di w b kd tx k) (hne : ¬ b = t) (o : Nat) (u : Value) : Di (w.setCell ⟨t, o, none⟩ u) b kd tx k := (Below.heap_setCell w ⟨t, o, none⟩ u b hne).trans h
theorem Di.set2 {w : World} {t : Nat} {kd k : Int} {tx : ByteArray} (h : Di w t kd tx k) (k' : Int) : Di (w.setCell ⟨t, 2, none⟩ (.int .i64 k')) t kd tx k' := by
  have h' := h
  unfold Di at h h' |-
  simp only [World.setCell, Array.getElem?_modify, h', if_true, Option.map_some]
  rfl
theorem Nk {w w1 : World} (h : Below w.heap.size w w1) (b : Nat) : w.grownBy w1 (some b) := ⟨h.os, h.tape, h.output, h.size, fun i hi _ => h.block i hi⟩
theorem Jg {a w : World} {b t : Nat} (h : a.grownBy w (some b)) (ht : a.heap.size <= t) (o : Nat) (u : Value) : a.grownBy (w.setCell ⟨t, o, none⟩ u) (some b) :=
  ⟨h.os, h.tape, h.output, by simpa [World.setCell] using h.size, fun i hi hne => (Below.heap_setCell w ⟨t, o, none⟩ u i (by intro e; simp at e; omega)).trans (h.block i hi hne)⟩
theorem Vq {a w : World} {row : Option Nat} (h : a.grownBy w row) : a.grownBy w.drew row := ⟨h.os, h.tape, h.output, h.size, h.block⟩
theorem Dz {w w1 : World} {o : Obj} (h : Below (w.alloc o).heap.size (w.alloc o) w1) : Below w.heap.size w w1 :=
  ((Below.refl w.heap.size w).alloc (Nat.le_refl _) o).trans (h.mono (by simp))
theorem M9 {w w1 : World} {o : Obj} (h : Below (w.alloc o).heap.size (w.alloc o) w1) : w.heap.size <= w1.heap.size := by have := h.size; simp at this; omega
theorem We (s : ByteArray) : (s.size : Int) = (s.data.toList.length : Int) := by simp
def NextRel (s : ByteArray) (k : Nat) (w1 : World) (e : Value) (wr : World) : Prop :=
  ∃ e' : Nat, k <= e' /\ e' <= s.size /\ e = .int .i64 e' /\ ((s.data.toList.drop k).take (e' - k)).all Dg = true /\ Below w1.heap.size w1 wr
set_option maxRecDepth 100000 in
set_option maxHeartbeats 4000000 in
theorem next_any (b : Nat) (s : ByteArray) (k : Nat) (w : World) (hs : s.size <= 1000000) (hk : k < s.size) (hR : J8 w b s k) :
    Calls Tryz.prog 171 #[.pointer (some ⟨b, 0, none⟩)] w (NextPost b s k w) := by
  have hlb := B6 hR
  have HR := Lib.hid hR
  have e0 := hR.cells.1
  have e1 := hR.cells.2.1
  clear hR
  go_enter Tryz.func171, Tryz.ntmps171
  go_wp2
  have HR1 : Hid (J8 (w.alloc (.cells #[.int .i64 0, .string ⟨#[]⟩, .int .i64 0] 141)) b s k) := Lib.hid (HR.out.below ((Below.refl _ _).alloc (Nat.le_refl _) _))
  clear e0 e1
  go_loopw [3] (fun e wr => NextRel s k (w.alloc (.cells #[.int .i64 0, .string ⟨#[]⟩, .int .i64 0] 141)) e wr) (fun e _ => s.size - (intOf e).toNat)
  case atStart => exact ⟨k, Nat.le_refl _, by omega, rfl, by simp, Below.refl _ _⟩
  case round =>
    obtain ⟨e, he1, he2, rfl, hall, hB⟩ := hrel
    have HRr := Lib.hid (HR1.out.below hB)
    have HA := Lib.hid hall
    have HB := Lib.hid hB
    have hBs := hB.size
    have e0 := HRr.out.cells.1
    have e1 := HRr.out.cells.2.1
    have ht := HRr.out.tests
    have HT := Lib.hid ht
    clear hall hB ht HR1 HR
    by_cases hmore : ∃ h : e < s.size, Dg s[e] = true
    . obtain ⟨hlt, hp⟩ := hmore
      have HP := Lib.hid hp
      go_wp2_with (go_at_call 192; refine (Agx _ _ _ _ _ HRr.out).mono ?_; rintro e' w1 ⟨rfl, hb1⟩)
      go_roundw
      case rel =>
        refine ⟨e + 1, by omega, by omega, by go_num, ?_, HB.out.trans (hb1.mono hBs)⟩
        rw [show e + 1 - k = (e - k) + 1 from by omega]
        exact Pg (by simp; omega) HA.out (by rw [Ael hlt he1]; exact HP.out)
      case measure => simp [intOf]; omega
    . have HW : Hid ((s.data.toList.drop k).takeWhile Dg = (s.data.toList.drop k).take (e - k)) := Lib.hid (Wj (by simp; omega) HA.out (fun h' => by
        have hlt : e < s.size := by simp at h'; omega
        have : Dg s[e] = false := by
          cases hp : Dg s[e]
          . rfl
          . exact absurd ⟨hlt, hp⟩ hmore
        rw [Ael hlt he1]; exact this))
      clear HT
      by_cases hlt : e < s.size
      . have hp : Dg s[e] = false := by
          cases hp : Dg s[e]
          . rfl
          . exact absurd ⟨hlt, hp⟩ hmore
        clear hmore
        go_wp2_with fail
        refine (Agx _ _ _ _ _ HRr.out).mono ?_
        rintro e' w1 ⟨rfl, hb1⟩
        have hrr := HRr.out.below hb1
        have hbb := HB.out.trans (hb1.mono hBs)
        clear HRr HB e0 e1 hb1
        have HRr := Lib.hid hrr
        have HB := Lib.hid hbb
        have e0 := hrr.cells.1
        have e1 := hrr.cells.2.1
        clear hrr hbb
        go_wp2_with fail
        have HT := Lib.hid (Ta w1 4 ⟨#[]⟩ k)
        have HR2 := Lib.hid (HRr.out.below ((Below.refl _ _).alloc (Nat.le_refl _) (.cells #[.int .i64 4, .string ⟨#[]⟩, .int .i64 (k : Int)] 141)))
        obtain ⟨w2, hw2⟩ : ∃ x, x = w1.alloc (.cells #[.int .i64 4, .string ⟨#[]⟩, .int .i64 (k : Int)] 141) := ⟨_, rfl⟩
        rw [<- hw2] at HT HR2 |-
        have HB2 : Hid (Below w1.heap.size w1 w2) := Lib.hid (by rw [hw2]; exact (Below.refl _ _).alloc (Nat.le_refl _) _)
        clear hw2 e0 e1
        have d0 : ∀ x : Later w2, x.world.cell? ⟨b, 0, none⟩ = some (.string s) := Bn HR2.out.cells.1
        have d1 : ∀ x : Later w2, x.world.cell? ⟨b, 1, none⟩ = some (.int .i64 (k : Int)) := Bn HR2.out.cells.2.1
        go_wp2_with fail
        refine Ax (by kernel_rfl) (by kernel_rfl) ?_
        repeat (go_big_quiet_step (fail))
        refine wpQuiet_nil ?_
        intro w3 hb3
        have HR3 := Lib.hid (HR2.out.below hb3)
        have HT3 := Lib.hid (HT.out.below hb3)
        have HB3 := Lib.hid (HB2.out.trans (hb3.mono HB2.out.size))
        clear d0 d1 hb3
        go_upto_block 2 with (fail)
        go_cut [] (fun w' => CutRel s k w1 w')
        case first =>
          have e0 := HR3.out.cells.1
          have e1 := HR3.out.cells.2.1
          have t0 := HR3.out.tests.1
          go_upto_if 83 with (go_at_call 190; refine (Qb _ _).mono ?_; rintro e' w4 ⟨rfl, hb4⟩)
          have HR4 := Lib.hid (HR3.out.below hb4)
          have HT4 := Lib.hid (HT3.out.below hb4)
          have HB4 := Lib.hid (HB3.out.trans (hb4.mono HB3.out.size))
          clear e0 e1 t0 hb4
          cases hlet : D0 s[k]
          . have t1 := HR4.out.tests.2.1
            go_upto_if 110 with (go_at_call 190; refine (Ur _ _).mono ?_; rintro e' w5 ⟨rfl, hb5⟩)
            have HR5 := Lib.hid (HR4.out.below hb5)
            have HT5 := Lib.hid (HT4.out.below hb5)
            have HB5 := Lib.hid (HB4.out.trans (hb5.mono HB4.out.size))
            clear t1 hb5 HR4 HT4 HB4
            have d0 := HR5.out.cells.1
            have d1 := HR5.out.cells.2.1
            have d2 := HT5.out.free
            have d3 := HT5.out.cells
            have hbT := B6 HRr.out
            have hne : ¬ b = w1.heap.size := by omega
            cases hdig : F9 s[k]
            . have HS : Hid (Ep (s.data.toList.drop k) = (4, if Tn Ej ((s.data.toList.drop k).take 2) then (s.data.toList.drop k).take 2 else (s.data.toList.drop k).take 1)) := Lib.hid (Vo hk hlet hdig)
              clear hlet
              go_wp2_with fail
              go_region
              go_wp2_with fail
              refine Ln (F := fun w' => ∃ x : ByteArray, x.data.toList = (s.data.toList.drop k).take 2 /\ Di w' w1.heap.size 4 x k /\ Below w1.heap.size w1 w') ⟨s.extract k (min ((k : Int) + 2) s.size).toNat, N8 hk, HT5.out.set1 _, (HB5.out.setCell (p := ⟨w1.heap.size, 1, none⟩) (Nat.le_refl _) _).drew⟩ ?_
              rintro w6 ⟨x, hx, hT6, hB6⟩
              have HX := Lib.hid hx
              have HT6 := Lib.hid hT6
              have HB6 := Lib.hid hB6
              have c1 := hT6.cells.2.1
              have c2 := B6 hT6
              have hx1 : 1 <= x.size := Aa5 hk hx
              clear hx hT6 hB6 d0 d1 d2 d3 HT5 HB5
              cases hm : Tm Dn x
              . have HO : Hid (Ep (s.data.toList.drop k) = (4, (x.extract 0 1).data.toList)) := Lib.hid (by
                  rw [HS.out, <- HX.out, <- G5, hm, Df, HX.out]; simp [List.take_take])
                have c3 := HT6.out.free.2.1
                go_region_held3 (fun w' => w'.cell? ⟨w1.heap.size, 1, none⟩ = some (.string x)) (go_keep) (first | (go_at_call 156; refine (Iy _).mono ?_; rintro e w' ⟨rfl, rfl⟩) | (go_at_call 41; refine (Bz _ 21 _ Dn _ _ rfl (by omega) (Ft _)).mono ?_; rintro e w' ⟨rfl, rfl⟩))
                go_wp2_with fail
                go_meet
                case rel =>
                  have hT7 := HT6.out.set1 (x.extract 0 1)
                  have hB7 := HB6.out.setCell (p := ⟨w1.heap.size, 1, none⟩) (Nat.le_refl _) (.string (x.extract 0 1))
                  have hb7 := ((Below.refl (w6.setCell ⟨w1.heap.size, 1, none⟩ (.string (x.extract 0 1))).heap.size (w6.setCell ⟨w1.heap.size, 1, none⟩ (.string (x.extract 0 1)))).alloc (Nat.le_refl _) (.cells E9 9)).drew
                  exact ⟨x.extract 0 1, by rw [HO.out]; exact hT7.below hb7, by rw [HO.out], hB7.trans (hb7.mono hB7.size)⟩
              . have HO : Hid (Ep (s.data.toList.drop k) = (4, x.data.toList)) := Lib.hid (by
                  rw [HS.out, <- HX.out, <- G5, hm]; rfl)
                go_region_held3 (fun w' => w'.cell? ⟨w1.heap.size, 1, none⟩ = some (.string x)) (go_keep) (first | (go_at_call 156; refine (Iy _).mono ?_; rintro e w' ⟨rfl, rfl⟩) | (go_at_call 41; refine (Bz _ 21 _ Dn _ _ rfl (by omega) (Ft _)).mono ?_; rintro e w' ⟨rfl, rfl⟩))
                go_wp2_with fail
                go_meet
                case rel =>
                  have hb7 : Below w6.heap.size w6 (w6.alloc (.cells E9 9)).drew := ((Below.refl _ _).alloc (Nat.le_refl _) _).drew
                  exact ⟨x, by rw [HO.out]; exact HT6.out.below hb7, by rw [HO.out], HB6.out.trans (hb7.mono HB6.out.size)⟩
            . have HO : Hid (Ep (s.data.toList.drop k) = (3, (s.extract k e).data.toList)) := Lib.hid (by rw [Qk hk hlet hdig, Df, <- HW.out])
              clear hlet
              go_wp2_with fail
              go_region
              go_wp2_with fail
              go_meet
              case rel =>
                exact ⟨s.extract k e, by rw [HO.out]; exact (HT5.out.set0 3).set1 (s.extract k e), by rw [HO.out], ((HB5.out.setCell (p := ⟨w1.heap.size, 0, none⟩) (Nat.le_refl _) _).setCell (p := ⟨w1.heap.size, 1, none⟩) (Nat.le_refl _) _).drew⟩
          . have d0 := HR4.out.cells.1
            have d1 := HR4.out.cells.2.1
            have d2 := HT4.out.free
            have d3 := HT4.out.cells
            have hbT := B6 HRr.out
            have hne : ¬ b = w1.heap.size := by omega
            go_wp2_with fail
            go_region
            go_wp2_with fail
            refine Ln (F := fun w' => Di w' w1.heap.size 1 (s.extract k e) k /\ Below w1.heap.size w1 w') ⟨(HT4.out.set0 1).set1 (s.extract k e), ((HB4.out.setCell (p := ⟨w1.heap.size, 0, none⟩) (Nat.le_refl _) _).setCell (p := ⟨w1.heap.size, 1, none⟩) (Nat.le_refl _) _).drew⟩ ?_
            rintro w5 ⟨hT5, hB5⟩
            have HT5 := Lib.hid hT5
            have HB5 := Lib.hid hB5
            have c1 := hT5.cells.2.1
            have c2 := B6 hT5
            clear hT5 hB5 d0 d1 d2 d3 HT4 HB4
            have HX : Hid ((s.extract k e).data.toList = (s.data.toList.drop k).takeWhile Dg) := Lib.hid (by rw [HW.out, Df])
            cases hm : Tm Cz (s.extract k e)
            . have HO : Hid (Ep (s.data.toList.drop k) = (1, (s.extract k e).data.toList)) := Lib.hid (by rw [Hu hk hlet, HX.out, <- HX.out, <- F3, hm]; rfl)
              clear hlet
              go_region_held3 (fun w' => w'.cell? ⟨w1.heap.size, 1, none⟩ = some (.string (s.extract k e))) (go_keep) (first | (go_at_call 154; refine (Hh _).mono ?_; rintro e w' ⟨rfl, rfl⟩) | (go_at_call 41; refine (Bz _ 23 _ Cz _ _ rfl (by omega) (Fw _)).mono ?_; rintro e w' ⟨rfl, rfl⟩))
              go_wp2_with fail
              go_meet
              case rel =>
                have hb5 : Below w5.heap.size w5 (w5.alloc (.cells Fd 9)).drew := ((Below.refl _ _).alloc (Nat.le_refl _) _).drew
                exact ⟨s.extract k e, by rw [HO.out]; exact HT5.out.below hb5, by rw [HO.out], HB5.out.trans (hb5.mono HB5.out.size)⟩
            . have HO : Hid (Ep (s.data.toList.drop k) = (2, (s.extract k e).data.toList)) := Lib.hid (by rw [Hu hk hlet, HX.out, <- HX.out, <- F3, hm]; rfl)
              clear hlet
              have c0 := HT5.out.cells.1
              have c3 := HT5.out.free.1
              go_region_held3 (fun w' => w'.cell? ⟨w1.heap.size, 1, none⟩ = some (.string (s.extract k e))) (go_keep) (first | (go_at_call 154; refine (Hh _).mono ?_; rintro e w' ⟨rfl, rfl⟩) | (go_at_call 41; refine (Bz _ 23 _ Cz _ _ rfl (by omega) (Fw _)).mono ?_; rintro e w' ⟨rfl, rfl⟩))
              go_wp2_with fail
              go_meet
              case rel =>
                have hT6 := HT5.out.set0 2
                have hB6 := HB5.out.setCell (p := ⟨w1.heap.size, 0, none⟩) (Nat.le_refl _) (.int .i64 2)
                have hb6 := ((Below.refl (w5.setCell ⟨w1.heap.size, 0, none⟩ (.int .i64 2)).heap.size (w5.setCell ⟨w1.heap.size, 0, none⟩ (.int .i64 2))).alloc (Nat.le_refl _) (.cells Fd 9)).drew
                exact ⟨s.extract k e, by rw [HO.out]; exact hT6.below hb6, by rw [HO.out], hB6.trans (hb6.mono hB6.size)⟩
        case rest =>
          obtain ⟨tx, hTc, htx, hBc⟩ := hcut
          have HTc := Lib.hid hTc
          have HBc := Lib.hid hBc
          have HX := Lib.hid htx
          have HRc := Lib.hid (HRr.out.below hBc)
          have HZ1 : Hid (Di w1 w.heap.size 0 ⟨#[]⟩ 0) := Lib.hid ((Ta w 0 ⟨#[]⟩ 0).below HB.out)
          have HZ := Lib.hid (HZ1.out.below hBc)
          have hbT := B6 HRr.out
          have hZT := B6 HZ1.out
          have htl : tx.size <= s.size - k := R1 htx
          obtain ⟨kd, hkd⟩ : ∃ kd, kd = (Ep (s.data.toList.drop k)).1 := ⟨_, rfl⟩
          rw [<- hkd] at HTc
          have HKD := Lib.hid hkd
          have d3 := HTc.out.cells
          clear hTc hBc htx hkd HR3 HT3 HB3 HR2 HT HB2
          cases hri : C3 kd tx.data.toList
          . have HRI : Hid (C3 (Ep (s.data.toList.drop k)).1 (Ep (s.data.toList.drop k)).2 = false) := Lib.hid (by rw [<- HKD.out, <- HX.out]; exact hri)
            go_wp2_with fail
            refine (Ha _ _ _ (by omega)).mono ?_
            rintro e' w5 ⟨rfl, hb5⟩
            have e0 := (HRc.out.below hb5).cells.1
            have e1 := (HRc.out.below hb5).cells.2.1
            go_wp2
            exact ⟨rfl, .inr ⟨HRI.out, rfl, Nk ((Dz HB.out).trans ((HBc.out.trans (hb5.mono HBc.out.size)).mono (M9 HB.out))) b⟩⟩
          . have HRI : Hid (C3 (Ep (s.data.toList.drop k)).1 (Ep (s.data.toList.drop k)).2 = true) := Lib.hid (by rw [<- HKD.out, <- HX.out]; exact hri)
            go_wp2_with fail
            refine (Ha _ _ _ (by omega)).mono ?_
            rintro e' w5 ⟨rfl, hb5⟩
            have HR5 := Lib.hid (HRc.out.below hb5)
            have HT5 := Lib.hid (HTc.out.below hb5)
            have HZ5 := Lib.hid (HZ.out.below hb5)
            have HB5 := Lib.hid (HBc.out.trans (hb5.mono HBc.out.size))
            clear d3 hb5
            have e0 := HR5.out.cells
            have d3 := HT5.out.cells
            have hne : ¬ b = w1.heap.size := by omega
            have hne2 : ¬ b = w.heap.size := by omega
            have hne3 : ¬ w1.heap.size = w.heap.size := by omega
            have hsum : (k : Int) + tx.size <= 1000000 := by omega
            have z0 := HZ5.out.cells
            have z1 := HZ5.out.free
            go_wp2_with fail
            go_region
            go_wp2
            have HN : Hid (J8 (((((w5.setCell ⟨b, 1, none⟩ (.int .i64 ((k : Int) + (tx.size : Int)))).setCell ⟨w.heap.size, 0, none⟩ (.int .i64 kd)).setCell ⟨w.heap.size, 1, none⟩ (.string tx)).setCell ⟨w.heap.size, 2, none⟩ (.int .i64 (k : Int))).drew) b s ((k : Int) + (tx.size : Int))) := Lib.hid ((((HR5.out.set _).far hne2 _ _).far hne2 _ _).far hne2 _ _)
            have HE : Hid (Di (((((w5.setCell ⟨b, 1, none⟩ (.int .i64 ((k : Int) + (tx.size : Int)))).setCell ⟨w.heap.size, 0, none⟩ (.int .i64 kd)).setCell ⟨w.heap.size, 1, none⟩ (.string tx)).setCell ⟨w.heap.size, 2, none⟩ (.int .i64 (k : Int))).drew) w.heap.size kd tx k) := Lib.hid ((((HZ5.out.far (fun h => hne2 h.symm) _ _).set0 kd).set1 tx).set2 k)
            have HO5 : Hid (w.grownBy w5 (some b)) := Lib.hid (Nk ((Dz HB.out).trans (HB5.out.mono (M9 HB.out))) b)
            have HG : Hid (w.grownBy (((((w5.setCell ⟨b, 1, none⟩ (.int .i64 ((k : Int) + (tx.size : Int)))).setCell ⟨w.heap.size, 0, none⟩ (.int .i64 kd)).setCell ⟨w.heap.size, 1, none⟩ (.string tx)).setCell ⟨w.heap.size, 2, none⟩ (.int .i64 (k : Int))).drew) (some b)) := Lib.hid (Vq (Jg (Jg (Jg (Jh HO5.out _ _) (Nat.le_refl _) _ _) (Nat.le_refl _) _ _) (Nat.le_refl _) _ _))
            generalize (((((w5.setCell ⟨b, 1, none⟩ (.int .i64 ((k : Int) + (tx.size : Int)))).setCell ⟨w.heap.size, 0, none⟩ (.int .i64 kd)).setCell ⟨w.heap.size, 1, none⟩ (.string tx)).setCell ⟨w.heap.size, 2, none⟩ (.int .i64 (k : Int))).drew) = w9 at HN HE HG |-
            have q := HE.out.cells
            exact bodyPost_ret (v := .agg #[.int .i64 kd, .string tx, .int .i64 k]) (by simp [results, Tryz.results171, go_sem, q.1, q.2.1, q.2.2]) rfl (.inl ⟨HRI.out, tx, HX.out, by rw [<- HKD.out], by rw [<- HX.out]; exact (We tx) ▸ HN.out, HG.out⟩)
      . clear hmore
        go_wp2_with fail
        obtain ⟨w1, hw1⟩ : ∃ x, x = wr := ⟨_, rfl⟩
        subst hw1
        have HT := Lib.hid (Ta w1 4 ⟨#[]⟩ k)
        have HR2 := Lib.hid (HRr.out.below ((Below.refl _ _).alloc (Nat.le_refl _) (.cells #[.int .i64 4, .string ⟨#[]⟩, .int .i64 (k : Int)] 141)))
        obtain ⟨w2, hw2⟩ : ∃ x, x = w1.alloc (.cells #[.int .i64 4, .string ⟨#[]⟩, .int .i64 (k : Int)] 141) := ⟨_, rfl⟩
        rw [<- hw2] at HT HR2 |-
        have HB2 : Hid (Below w1.heap.size w1 w2) := Lib.hid (by rw [hw2]; exact (Below.refl _ _).alloc (Nat.le_refl _) _)
        clear hw2 e0 e1
        have d0 : ∀ x : Later w2, x.world.cell? ⟨b, 0, none⟩ = some (.string s) := Bn HR2.out.cells.1
        have d1 : ∀ x : Later w2, x.world.cell? ⟨b, 1, none⟩ = some (.int .i64 (k : Int)) := Bn HR2.out.cells.2.1
        go_wp2_with fail
        refine Ax (by kernel_rfl) (by kernel_rfl) ?_
        repeat (go_big_quiet_step (fail))
        refine wpQuiet_nil ?_
        intro w3 hb3
        have HR3 := Lib.hid (HR2.out.below hb3)
        have HT3 := Lib.hid (HT.out.below hb3)
        have HB3 := Lib.hid (HB2.out.trans (hb3.mono HB2.out.size))
        clear d0 d1 hb3
        go_upto_block 2 with (fail)
        go_cut [] (fun w' => CutRel s k w1 w')
        case first =>
          have e0 := HR3.out.cells.1
          have e1 := HR3.out.cells.2.1
          have t0 := HR3.out.tests.1
          go_upto_if 83 with (go_at_call 190; refine (Qb _ _).mono ?_; rintro e' w4 ⟨rfl, hb4⟩)
          have HR4 := Lib.hid (HR3.out.below hb4)
          have HT4 := Lib.hid (HT3.out.below hb4)
          have HB4 := Lib.hid (HB3.out.trans (hb4.mono HB3.out.size))
          clear e0 e1 t0 hb4
          cases hlet : D0 s[k]
          . have t1 := HR4.out.tests.2.1
            go_upto_if 110 with (go_at_call 190; refine (Ur _ _).mono ?_; rintro e' w5 ⟨rfl, hb5⟩)
            have HR5 := Lib.hid (HR4.out.below hb5)
            have HT5 := Lib.hid (HT4.out.below hb5)
            have HB5 := Lib.hid (HB4.out.trans (hb5.mono HB4.out.size))
            clear t1 hb5 HR4 HT4 HB4
            have d0 := HR5.out.cells.1
            have d1 := HR5.out.cells.2.1
            have d2 := HT5.out.free
            have d3 := HT5.out.cells
            have hbT := B6 HRr.out
            have hne : ¬ b = w1.heap.size := by omega
            cases hdig : F9 s[k]
            . have HS : Hid (Ep (s.data.toList.drop k) = (4, if Tn Ej ((s.data.toList.drop k).take 2) then (s.data.toList.drop k).take 2 else (s.data.toList.drop k).take 1)) := Lib.hid (Vo hk hlet hdig)
              clear hlet
              go_wp2_with fail
              go_region
              go_wp2_with fail
              refine Ln (F := fun w' => ∃ x : ByteArray, x.data.toList = (s.data.toList.drop k).take 2 /\ Di w' w1.heap.size 4 x k /\ Below w1.heap.size w1 w') ⟨s.extract k (min ((k : Int) + 2) s.size).toNat, N8 hk, HT5.out.set1 _, (HB5.out.setCell (p := ⟨w1.heap.size, 1, none⟩) (Nat.le_refl _) _).drew⟩ ?_
              rintro w6 ⟨x, hx, hT6, hB6⟩
              have HX := Lib.hid hx
              have HT6 := Lib.hid hT6
              have HB6 := Lib.hid hB6
              have c1 := hT6.cells.2.1
              have c2 := B6 hT6
              have hx1 : 1 <= x.size := Aa5 hk hx
              clear hx hT6 hB6 d0 d1 d2 d3 HT5 HB5
              cases hm : Tm Dn x
              . have HO : Hid (Ep (s.data.toList.drop k) = (4, (x.extract 0 1).data.toList)) := Lib.hid (by
                  rw [HS.out, <- HX.out, <- G5, hm, Df, HX.out]; simp [List.take_take])
                have c3 := HT6.out.free.2.1
                go_region_held3 (fun w' => w'.cell? ⟨w1.heap.size, 1, none⟩ = some (.string x)) (go_keep) (first | (go_at_call 156; refine (Iy _).mono ?_; rintro e w' ⟨rfl, rfl⟩) | (go_at_call 41; refine (Bz _ 21 _ Dn _ _ rfl (by omega) (Ft _)).mono ?_; rintro e w' ⟨rfl, rfl⟩))
                go_wp2_with fail
                go_meet
                case rel =>
                  have hT7 := HT6.out.set1 (x.extract 0 1)
                  have hB7 := HB6.out.setCell (p := ⟨w1.heap.size, 1, none⟩) (Nat.le_refl _) (.string (x.extract 0 1))
                  have hb7 := ((Below.refl (w6.setCell ⟨w1.heap.size, 1, none⟩ (.string (x.extract 0 1))).heap.size (w6.setCell ⟨w1.heap.size, 1, none⟩ (.string (x.extract 0 1)))).alloc (Nat.le_refl _) (.cells E9 9)).drew
                  exact ⟨x.extract 0 1, by rw [HO.out]; exact hT7.below hb7, by rw [HO.out], hB7.trans (hb7.mono hB7.size)⟩
              . have HO : Hid (Ep (s.data.toList.drop k) = (4, x.data.toList)) := Lib.hid (by
                  rw [HS.out, <- HX.out, <- G5, hm]; rfl)
                go_region_held3 (fun w' => w'.cell? ⟨w1.heap.size, 1, none⟩ = some (.string x)) (go_keep) (first | (go_at_call 156; refine (Iy _).mono ?_; rintro e w' ⟨rfl, rfl⟩) | (go_at_call 41; refine (Bz _ 21 _ Dn _ _ rfl (by omega) (Ft _)).mono ?_; rintro e w' ⟨rfl, rfl⟩))
                go_wp2_with fail
                go_meet
                case rel =>
                  have hb7 : Below w6.heap.size w6 (w6.alloc (.cells E9 9)).drew := ((Below.refl _ _).alloc (Nat.le_refl _) _).drew
                  exact ⟨x, by rw [HO.out]; exact HT6.out.below hb7, by rw [HO.out], HB6.out.trans (hb7.mono HB6.out.size)⟩
            . have HO : Hid (Ep (s.data.toList.drop k) = (3, (s.extract k e).data.toList)) := Lib.hid (by rw [Qk hk hlet hdig, Df, <- HW.out])
              clear hlet
              go_wp2_with fail
              go_region
              go_wp2_with fail
              go_meet
              case rel =>
                exact ⟨s.extract k e, by rw [HO.out]; exact (HT5.out.set0 3).set1 (s.extract k e), by rw [HO.out], ((HB5.out.setCell (p := ⟨w1.heap.size, 0, none⟩) (Nat.le_refl _) _).setCell (p := ⟨w1.heap.size, 1, none⟩) (Nat.le_refl _) _).drew⟩
          . have d0 := HR4.out.cells.1
            have d1 := HR4.out.cells.2.1
            have d2 := HT4.out.free
            have d3 := HT4.out.cells
            have hbT := B6 HRr.out
            have hne : ¬ b = w1.heap.size := by omega
            go_wp2_with fail
            go_region
            go_wp2_with fail
            refine Ln (F := fun w' => Di w' w1.heap.size 1 (s.extract k e) k /\ Below w1.heap.size w1 w') ⟨(HT4.out.set0 1).set1 (s.extract k e), ((HB4.out.setCell (p := ⟨w1.heap.size, 0, none⟩) (Nat.le_refl _) _).setCell (p := ⟨w1.heap.size, 1, none⟩) (Nat.le_refl _) _).drew⟩ ?_
            rintro w5 ⟨hT5, hB5⟩
            have HT5 := Lib.hid hT5
            have HB5 := Lib.hid hB5
            have c1 := hT5.cells.2.1
            have c2 := B6 hT5
            clear hT5 hB5 d0 d1 d2 d3 HT4 HB4
            have HX : Hid ((s.extract k e).data.toList = (s.data.toList.drop k).takeWhile Dg) := Lib.hid (by rw [HW.out, Df])
            cases hm : Tm Cz (s.extract k e)
            . have HO : Hid (Ep (s.data.toList.drop k) = (1, (s.extract k e).data.toList)) := Lib.hid (by rw [Hu hk hlet, HX.out, <- HX.out, <- F3, hm]; rfl)
              clear hlet
              go_region_held3 (fun w' => w'.cell? ⟨w1.heap.size, 1, none⟩ = some (.string (s.extract k e))) (go_keep) (first | (go_at_call 154; refine (Hh _).mono ?_; rintro e w' ⟨rfl, rfl⟩) | (go_at_call 41; refine (Bz _ 23 _ Cz _ _ rfl (by omega) (Fw _)).mono ?_; rintro e w' ⟨rfl, rfl⟩))
              go_wp2_with fail
              go_meet
              case rel =>
                have hb5 : Below w5.heap.size w5 (w5.alloc (.cells Fd 9)).drew := ((Below.refl _ _).alloc (Nat.le_refl _) _).drew
                exact ⟨s.extract k e, by rw [HO.out]; exact HT5.out.below hb5, by rw [HO.out], HB5.out.trans (hb5.mono HB5.out.size)⟩
            . have HO : Hid (Ep (s.data.toList.drop k) = (2, (s.extract k e).data.toList)) := Lib.hid (by rw [Hu hk hlet, HX.out, <- HX.out, <- F3, hm]; rfl)
              clear hlet
              have c0 := HT5.out.cells.1
              have c3 := HT5.out.free.1
              go_region_held3 (fun w' => w'.cell? ⟨w1.heap.size, 1, none⟩ = some (.string (s.extract k e))) (go_keep) (first | (go_at_call 154; refine (Hh _).mono ?_; rintro e w' ⟨rfl, rfl⟩) | (go_at_call 41; refine (Bz _ 23 _ Cz _ _ rfl (by omega) (Fw _)).mono ?_; rintro e w' ⟨rfl, rfl⟩))
              go_wp2_with fail
              go_meet
              case rel =>
                have hT6 := HT5.out.set0 2
                have hB6 := HB5.out.setCell (p := ⟨w1.heap.size, 0, none⟩) (Nat.le_refl _) (.int .i64 2)
                have hb6 := ((Below.refl (w5.setCell ⟨w1.heap.size, 0, none⟩ (.int .i64 2)).heap.size (w5.setCell ⟨w1.heap.size, 0, none⟩ (.int .i64 2))).alloc (Nat.le_refl _) (.cells Fd 9)).drew
                exact ⟨s.extract k e, by rw [HO.out]; exact hT6.below hb6, by rw [HO.out], hB6.trans (hb6.mono hB6.size)⟩
        case rest =>
          obtain ⟨tx, hTc, htx, hBc⟩ := hcut
          have HTc := Lib.hid hTc
          have HBc := Lib.hid hBc
          have HX := Lib.hid htx
          have HRc := Lib.hid (HRr.out.below hBc)
          have HZ1 : Hid (Di w1 w.heap.size 0 ⟨#[]⟩ 0) := Lib.hid ((Ta w 0 ⟨#[]⟩ 0).below HB.out)
          have HZ := Lib.hid (HZ1.out.below hBc)
          have hbT := B6 HRr.out
          have hZT := B6 HZ1.out
          have htl : tx.size <= s.size - k := R1 htx
          obtain ⟨kd, hkd⟩ : ∃ kd, kd = (Ep (s.data.toList.drop k)).1 := ⟨_, rfl⟩
          rw [<- hkd] at HTc
          have HKD := Lib.hid hkd
          have d3 := HTc.out.cells
          clear hTc hBc htx hkd HR3 HT3 HB3 HR2 HT HB2
          cases hri : C3 kd tx.data.toList
          . have HRI : Hid (C3 (Ep (s.data.toList.drop k)).1 (Ep (s.data.toList.drop k)).2 = false) := Lib.hid (by rw [<- HKD.out, <- HX.out]; exact hri)
            go_wp2_with fail
            refine (Ha _ _ _ (by omega)).mono ?_
            rintro e' w5 ⟨rfl, hb5⟩
            have e0 := (HRc.out.below hb5).cells.1
            have e1 := (HRc.out.below hb5).cells.2.1
            go_wp2
            exact ⟨rfl, .inr ⟨HRI.out, rfl, Nk ((Dz HB.out).trans ((HBc.out.trans (hb5.mono HBc.out.size)).mono (M9 HB.out))) b⟩⟩
          . have HRI : Hid (C3 (Ep (s.data.toList.drop k)).1 (Ep (s.data.toList.drop k)).2 = true) := Lib.hid (by rw [<- HKD.out, <- HX.out]; exact hri)
            go_wp2_with fail
            refine (Ha _ _ _ (by omega)).mono ?_
            rintro e' w5 ⟨rfl, hb5⟩
            have HR5 := Lib.hid (HRc.out.below hb5)
            have HT5 := Lib.hid (HTc.out.below hb5)
            have HZ5 := Lib.hid (HZ.out.below hb5)
            have HB5 := Lib.hid (HBc.out.trans (hb5.mono HBc.out.size))
            clear d3 hb5
            have e0 := HR5.out.cells
            have d3 := HT5.out.cells
            have hne : ¬ b = w1.heap.size := by omega
            have hne2 : ¬ b = w.heap.size := by omega
            have hne3 : ¬ w1.heap.size = w.heap.size := by omega
            have hsum : (k : Int) + tx.size <= 1000000 := by omega
            have z0 := HZ5.out.cells
            have z1 := HZ5.out.free
            go_wp2_with fail
            go_region
            go_wp2
            have HN : Hid (J8 (((((w5.setCell ⟨b, 1, none⟩ (.int .i64 ((k : Int) + (tx.size : Int)))).setCell ⟨w.heap.size, 0, none⟩ (.int .i64 kd)).setCell ⟨w.heap.size, 1, none⟩ (.string tx)).setCell ⟨w.heap.size, 2, none⟩ (.int .i64 (k : Int))).drew) b s ((k : Int) + (tx.size : Int))) := Lib.hid ((((HR5.out.set _).far hne2 _ _).far hne2 _ _).far hne2 _ _)
            have HE : Hid (Di (((((w5.setCell ⟨b, 1, none⟩ (.int .i64 ((k : Int) + (tx.size : Int)))).setCell ⟨w.heap.size, 0, none⟩ (.int .i64 kd)).setCell ⟨w.heap.size, 1, none⟩ (.string tx)).setCell ⟨w.heap.size, 2, none⟩ (.int .i64 (k : Int))).drew) w.heap.size kd tx k) := Lib.hid ((((HZ5.out.far (fun h => hne2 h.symm) _ _).set0 kd).set1 tx).set2 k)
            have HO5 : Hid (w.grownBy w5 (some b)) := Lib.hid (Nk ((Dz HB.out).trans (HB5.out.mono (M9 HB.out))) b)
            have HG : Hid (w.grownBy (((((w5.setCell ⟨b, 1, none⟩ (.int .i64 ((k : Int) + (tx.size : Int)))).setCell ⟨w.heap.size, 0, none⟩ (.int .i64 kd)).setCell ⟨w.heap.size, 1, none⟩ (.string tx)).setCell ⟨w.heap.size, 2, none⟩ (.int .i64 (k : Int))).drew) (some b)) := Lib.hid (Vq (Jg (Jg (Jg (Jh HO5.out _ _) (Nat.le_refl _) _ _) (Nat.le_refl _) _ _) (Nat.le_refl _) _ _))
            generalize (((((w5.setCell ⟨b, 1, none⟩ (.int .i64 ((k : Int) + (tx.size : Int)))).setCell ⟨w.heap.size, 0, none⟩ (.int .i64 kd)).setCell ⟨w.heap.size, 1, none⟩ (.string tx)).setCell ⟨w.heap.size, 2, none⟩ (.int .i64 (k : Int))).drew) = w9 at HN HE HG |-
            have q := HE.out.cells
            exact bodyPost_ret (v := .agg #[.int .i64 kd, .string tx, .int .i64 k]) (by simp [results, Tryz.results171, go_sem, q.1, q.2.1, q.2.2]) rfl (.inl ⟨HRI.out, tx, HX.out, by rw [<- HKD.out], by rw [<- HX.out]; exact (We tx) ▸ HN.out, HG.out⟩)
end Go.Proofs.YtjagmmmcibdibaaGreatDoor
namespace Go.Proofs.YtjagmmmcibdibaaGreatDoor
open Go.RowKit
attribute [local go_sem] Oper.semAt_some
def Adk (W W' : World) : Prop := ∀ (b : Nat) (s : ByteArray) (k : Int), J8 W b s k -> J8 W' b s k
def Adn (s : ByteArray) (J : List Tok -> World -> Prop) (Jx : Nat -> World -> Prop) (e : Ending) (W' : World) : Prop :=
  ((Ds s.data.toList.length (s.data.toList.length + 1) s.data.toList []).2.2 = 0 /\ e = .returned (.tuple #[]) /\ J (Ds s.data.toList.length (s.data.toList.length + 1) s.data.toList []).1 W') \/
  ((Ds s.data.toList.length (s.data.toList.length + 1) s.data.toList []).2.2 = 3 /\ (Ds s.data.toList.length (s.data.toList.length + 1) s.data.toList []).1 = [] /\ e = .returned (.tuple #[]) /\ Jx (Ds s.data.toList.length (s.data.toList.length + 1) s.data.toList []).2.1 W') \/
  ((Ds s.data.toList.length (s.data.toList.length + 1) s.data.toList []).2.2 = 340 /\ (Ds s.data.toList.length (s.data.toList.length + 1) s.data.toList []).1 = [] /\
    e = .panicked [{ v := .iface 196 (.agg #[.int .i64 ((Ds s.data.toList.length (s.data.toList.length + 1) s.data.toList []).2.1 : Int)]), recovered := false }] /\ ∃ acc, J acc W')
def SeqRel (s : ByteArray) (J : List Tok -> World -> Prop) (B : Nat) (wr : World) : Prop :=
  ∃ (k f : Nat) (acc : List Tok), k <= s.size /\ J8 wr B s k /\ J acc wr /\ A9 false (s.data.toList.drop k) = s.data.toList.drop k /\ s.size - k < f /\
    Ds s.data.toList.length f (s.data.toList.drop k) acc = Ds s.data.toList.length (s.data.toList.length + 1) s.data.toList []
set_option maxRecDepth 100000 in
set_option maxHeartbeats 4000000 in
theorem Yt (n l TB : Nat) (s : ByteArray) (J : List Tok -> World -> Prop) (Jx : Nat -> World -> Prop) (W0 : World) (hs : s.size <= 20000) (hT : W0.cell? ⟨TB, 0, none⟩ = some (.string s))
    (hJb : ∀ acc W W', J acc W -> Below W.heap.size W W' -> J acc W')
    (hJr : ∀ acc W W' b k, W0.heap.size <= b -> J acc W -> J8 W b s k -> W.grownBy W' (some b) -> J acc W')
    (hY : ∀ acc t W, J acc W -> YieldAt Fence.wide n Tryz.prog l #[t.val] W fun e W' => (acc.length ≠ 2000 /\ e = .returned (.bool true) /\ J (acc ++ [t]) W' /\ Adk W W') \/ (acc.length = 2000 /\ e = .returned (.bool false) /\ Jx t.pos W'))
    (h0 : J [] W0) :
    CallsIn Fence.wide (n + 1) Tryz.prog 168 #[.func (.yield l) #[] #[], .pointer (some ⟨TB, 0, none⟩)] W0 (Adn s J Jx) := by
  refine callsIn_of_wp Tryz.func168 rfl trivial ?_ rfl
  simp only [Tryz.ntmps168, List.size_toArray, List.length_cons, List.length_nil, Nat.reduceAdd, Nat.reduceSub, Array.replicate_succ, Array.replicate_zero, List.push_toArray, List.append_toArray, List.nil_append, List.cons_append]
  gi_wp2
  refine wpIn_wide.2 ?_
  go_region_held3 (fun w' => w'.cell? ⟨TB, 0, none⟩ = some (.string s)) (go_keep) (first | (go_at_call 169; refine (Oe _).mono ?_; rintro e w' ⟨rfl, rfl⟩; unfold C1))
  gi_wp2_with fail
  have hb1 : Below W0.heap.size W0 ((W0.alloc (.cells C1 229)).alloc (.cells (Sg s 0) 232)).drew := (((Below.refl _ _).alloc (Nat.le_refl _) _).alloc (by simp) _).drew
  have hR1 : J8 ((W0.alloc (.cells C1 229)).alloc (.cells (Sg s 0) 232)).drew (W0.heap.size + 1) s 0 := by
    have := heap_alloc_new (W0.alloc (.cells C1 229)) (.cells (Sg s 0) 232)
    rw [World.size_alloc] at this
    exact this
  have HJ1 : Hid (J [] _) := Lib.hid (hJb _ _ _ h0 hb1)
  have HR1 := Lib.hid hR1
  have HJb := Lib.hid hJb
  have HJr := Lib.hid hJr
  have HY := Lib.hid hY
  clear hR1 hb1 hJb hJr hY h0 hT
  refine ⟨trivial, (callsIn_wide.2 (Aay (W0.heap.size + 1) s 0 _ (by omega) (by omega) HR1.out)).mono ?_⟩
  rintro e w2 ⟨rfl, hR2, hg2⟩
  have HR2 := Lib.hid hR2
  have HJ2 : Hid (J [] w2) := Lib.hid (HJr.out _ _ _ _ _ (Nat.le_succ _) HJ1.out HR1.out hg2)
  clear hR2 hg2 HR1 HJ1
  obtain ⟨B, hB⟩ : ∃ B, W0.heap.size + 1 = B := ⟨_, rfl⟩
  rw [hB] at HR2
  have hBle : W0.heap.size <= B := by omega
  have hstart : SeqRel s J B w2 := ⟨M4 s.data.toList 0, s.data.toList.length + 1, [], by have := Aaw s.data.toList 0 (by omega); simpa using this.2, HR2.out, HJ2.out, by rw [Jo, L7], by simp; omega, by rw [Jo, Qo]; simp⟩
  have HS := Lib.hid hstart
  clear hstart HR2 HJ2
  gi_wp2
  gi_loopw [11] (fun _ wr => SeqRel s J B wr) (fun _ wr => s.size - Ace wr B)
  case atStart => exact HS.out
  case round =>
    clear HS
    obtain ⟨k, f, acc, hk, hR, hJ, hsk, hf, hsc⟩ := hrel
    have HP := Lib.hid (Sd hR)
    have HR := Lib.hid hR
    have HJ := Lib.hid hJ
    have HSK := Lib.hid hsk
    have HSC := Lib.hid hsc
    have c0 : ∀ x : Later wr, x.world.cell? ⟨B, 0, none⟩ = some (.string s) := Bn hR.cells.1
    have c1 : ∀ x : Later wr, x.world.cell? ⟨B, 1, none⟩ = some (.int .i64 (k : Int)) := Bn hR.cells.2.1
    clear hR hJ hsk hsc
    by_cases hlt : k < s.size
    . gi_wp2_with fail
      refine wpIn_wide.2 ?_
      refine Ax (by kernel_rfl) (by kernel_rfl) ?_
      repeat (go_big_quiet_step (fail))
      refine wpQuiet_nil ?_
      intro w3 hb3
      have HR3 := Lib.hid (HR.out.below hb3)
      have HJ3 := Lib.hid (HJb.out _ _ _ HJ.out hb3)
      clear c0 c1 hb3 HR HJ
      gi_wp2_with fail
      have hlk : k < s.data.toList.length := by simpa using hlt
      have hne : s.data.toList.drop k ≠ [] := by rw [G0 hlk]; simp
      have hlen : s.data.toList.length = s.size := by simp
      have hpos : s.data.toList.length - (s.data.toList.drop k).length = k := by simp; omega
      have HNE := Lib.hid hne
      have HPOS := Lib.hid hpos
      have HLEN := Lib.hid hlen
      clear hne hpos hlen hB
      refine ⟨trivial, (callsIn_wide.2 (next_any B s k w3 (by omega) hlt HR3.out)).mono ?_⟩
      rintro e w4 (⟨hr, tx, htx, rfl, hR4, hg4⟩ | ⟨hr, rfl, hg4⟩)
      . have HJ4 := Lib.hid (HJr.out _ _ _ _ _ hBle HJ3.out HR3.out hg4)
        have HR4 := Lib.hid hR4
        have HRI := Lib.hid hr
        have HTX := Lib.hid (Abs htx)
        clear hr htx hR4 hg4 HR3 HJ3
        obtain ⟨kd, hkd⟩ : ∃ x, (Ep (s.data.toList.drop k)).1 = x := ⟨_, rfl⟩
        obtain ⟨tl, htl⟩ : ∃ x, (Ep (s.data.toList.drop k)).2 = x := ⟨_, rfl⟩
        rw [htl] at HTX HR4 HRI
        rw [hkd] at HRI |-
        have HKD := Lib.hid hkd
        have HTL := Lib.hid htl
        clear hkd htl
        obtain rfl := HTX.out
        clear HTX
        have hy0 := HY.out acc ⟨kd, tl, k⟩ w4 HJ4.out
        unfold Tok.val at hy0
        obtain ⟨fn, tmps, assign, body, hy, hRd⟩ := hy0
        have HRD := Lib.hid hRd
        clear hRd
        gi_wp2_with fail
        refine HRD.out.mono ?_
        rintro e w5 (⟨ha, rfl, hJ5, hk5⟩ | ⟨ha, rfl, hJx⟩)
        . have hR5 := hk5 _ _ _ HR4.out
          have hne2 := Aha HRI.out
          have hl2 : 1 <= tl.length := by cases tl with | nil => exact absurd rfl hne2 | cons => simp
          have hle : k + tl.length <= s.size := by
            have h1 := R1 (s := s) (k := k) (tx := Cs tl) (by rw [U6, HTL.out])
            have h2 : (Cs tl).size = tl.length := by simp [Cs, ByteArray.size]
            omega
          have HR5 := Lib.hid hR5
          have HJ5 := Lib.hid hJ5
          have HA := Lib.hid ha
          clear hR5 hne2 hk5 hJ5 ha hy HJ4 HR4 HRD
          gi_wp2_with fail
          refine ⟨trivial, (callsIn_wide.2 (Aay B s (k + tl.length) w5 (by omega) hle HR5.out)).mono ?_⟩
          rintro e w6 ⟨rfl, hR6, hg6⟩
          have HR6 := Lib.hid hR6
          have HJ6 := Lib.hid (HJr.out _ _ _ _ _ hBle HJ5.out HR5.out hg6)
          have hsn := Aaw s.data.toList (k + tl.length) (by simpa using hle)
          clear hR6 hg6 HR5 HJ5
          gi_wp2
          go_roundw
          case rel =>
            refine ⟨M4 s.data.toList (k + tl.length), f - 1, acc ++ [⟨kd, tl, k⟩], by simpa using hsn.2, HR6.out, HJ6.out, by rw [Jo, L7], ?_, ?_⟩
            . have := hsn.1; omega
            . rw [<- HSC.out]
              obtain ⟨f', rfl⟩ : ∃ f', f = f' + 1 := ⟨f - 1, by omega⟩
              obtain ⟨f'', rfl⟩ : ∃ f'', f' = f'' + 1 := ⟨f' - 1, by omega⟩
              rw [Acq HSK.out HNE.out (by rw [HKD.out, HTL.out]; exact HRI.out) HA.out, HKD.out, HTL.out, HPOS.out, List.drop_drop, Jo]
              exact Qo _ _ _ _
          case measure =>
            rw [Sd HR6.out, HP.out]
            have := hsn.1; have := hsn.2; have := HLEN.out; omega
        . have HA := Lib.hid ha
          have HJx := Lib.hid hJx
          clear ha hJx hy HJ4 HR4 HRD
          gi_wp2
          go_end0
          refine .inr (.inl ?_)
          rw [<- HSC.out]
          obtain ⟨f', rfl⟩ : ∃ f', f = f' + 1 := ⟨f - 1, by omega⟩
          rw [Acp HSK.out HNE.out (by rw [HKD.out, HTL.out]; exact HRI.out) HA.out, HPOS.out]
          exact ⟨rfl, rfl, rfl, HJx.out⟩
      . have HJ4 := Lib.hid (HJr.out _ _ _ _ _ hBle HJ3.out HR3.out hg4)
        have HRI := Lib.hid hr
        clear hr hg4 HJ3 HR3
        gi_wp2
        refine ⟨rfl, .inr (.inr ?_)⟩
        rw [<- HSC.out]
        obtain ⟨f', rfl⟩ : ∃ f', f = f' + 1 := ⟨f - 1, by omega⟩
        rw [Ahh HSK.out HNE.out HRI.out, HPOS.out]
        exact ⟨rfl, rfl, rfl, acc, HJ4.out⟩
    . obtain rfl : k = s.size := by omega
      gi_wp2_with fail
      refine wpIn_wide.2 ?_
      refine Ax (by kernel_rfl) (by kernel_rfl) ?_
      repeat (go_big_quiet_step (fail))
      refine wpQuiet_nil ?_
      intro w3 hb3
      have HJ3 := Lib.hid (HJb.out _ _ _ HJ.out hb3)
      clear c0 c1 hb3 HR HJ
      gi_wp2
      go_end0
      refine .inl ?_
      rw [<- HSC.out]
      obtain ⟨f', rfl⟩ : ∃ f', f = f' + 1 := ⟨f - 1, by omega⟩
      rw [show s.data.toList.drop s.size = [] from List.drop_eq_nil_of_le (by simp), Ahi]
      exact ⟨rfl, rfl, HJ3.out⟩
end Go.Proofs.YtjagmmmcibdibaaGreatDoor
namespace Go.Proofs.YtjagmmmcibdibaaGreatDoor
open Go.RowKit
attribute [local go_sem] Oper.semAt_some
theorem Ac7 (s : ByteArray) (w : World) :
    Calls Tryz.prog 140 #[.string s] w fun e w' => e = .returned (.func (.func 168) #[] #[.pointer (some ⟨w.heap.size, 0, none⟩)]) /\ w.alloc (.cells #[.string s] 9) = w' := by
  have hmf : ∀ (fn : Fn) (first cap : Array Value) (w : World), (Instr.makeFunc fn first cap).run Tryz.prog w = .ok (.func fn first cap) w := fun _ _ _ _ => rfl
  go_enter Tryz.func140, Tryz.ntmps140
  go_wp2
  go_ret
  exact ⟨rfl, rfl⟩
set_option maxRecDepth 100000 in
theorem Aco (n : Nat) (p0 p1 p2 : Addr) (w : World) :
    CallsDIn Fence.wide n Tryz.prog 139 #[.pointer (some p0), .pointer (some p1), .pointer (some p2)] .returning w fun e u' w' => e = .returned (.tuple #[]) /\ u' = .returning /\ Below w.heap.size w w' := by
  have hta : ∀ w, (Instr.typeAssert .nilIface 20 196 true).run Tryz.prog w = .ok (.tuple #[.agg #[.int .i64 0], .bool false]) w := fun _ => by kernel_rfl
  refine callsDIn_of_wpSIn Tryz.func139 rfl trivial fun c₀ cs hu => ?_
  simp only [Tryz.ntmps139, List.size_toArray, List.length_cons, List.length_nil, Nat.reduceAdd, Nat.reduceSub, Array.replicate_succ, Array.replicate_zero, List.push_toArray, List.append_toArray, List.nil_append, List.cons_append]
  apply wpSIn_seq
  apply wpSIn_region
  simp [wpOpsSIn, go_sem, recoverD, hu, hta, Exit.thenS]
  refine wpSIn_of_wpIn rfl (wpIn_wide.2 ?_)
  go_wp2
  cases c₀
  simp_all [bodyPostS, results, Tryz.results139]
  exact (Below.refl _ _).alloc (Nat.le_refl _) _
set_option maxRecDepth 100000 in
set_option maxHeartbeats 1000000 in
theorem Ahg (n b0 : Nat) (k : Int) (older : List PanicEntry) (w : World) (v0 v1 v2 : Value) (hc0 : w.cell? ⟨b0, 0, none⟩ = some v0) (hc1 : w.cell? ⟨b0 + 1, 0, none⟩ = some v1) (hc2 : w.cell? ⟨b0 + 2, 0, none⟩ = some v2)
    (hz0 : w.frozen? ⟨b0, 0, none⟩ = false) (hz1 : w.frozen? ⟨b0 + 1, 0, none⟩ = false) (hz2 : w.frozen? ⟨b0 + 2, 0, none⟩ = false) (hlt : b0 + 2 < w.heap.size) :
    CallsDIn Fence.wide n Tryz.prog 139 #[.pointer (some ⟨b0, 0, none⟩), .pointer (some ⟨b0 + 1, 0, none⟩), .pointer (some ⟨b0 + 2, 0, none⟩)] (.panicking ({ v := .iface 196 (.agg #[.int .i64 k]), recovered := false } :: older)) w fun e u' w' =>
      e = .returned (.tuple #[]) /\ u' = .panicking ({ v := .iface 196 (.agg #[.int .i64 k]), recovered := true } :: older) /\
      ∃ w2, Below w.heap.size w w2 /\ (((w2.setCell ⟨b0, 0, none⟩ (.slice none 0 0)).setCell ⟨b0 + 1, 0, none⟩ (.int .i64 k)).setCell ⟨b0 + 2, 0, none⟩ (.int .i64 340)).drew = w' := by
  have hta : ∀ w, (Instr.typeAssert (.iface 196 (.agg #[.int .i64 k])) 20 196 true).run Tryz.prog w = .ok (.tuple #[.agg #[.int .i64 k], .bool true]) w := fun _ => by kernel_rfl
  refine callsDIn_of_wpSIn Tryz.func139 rfl trivial fun c₀ cs hu => ?_
  simp only [Tryz.ntmps139, List.size_toArray, List.length_cons, List.length_nil, Nat.reduceAdd, Nat.reduceSub, Array.replicate_succ, Array.replicate_zero, List.push_toArray, List.append_toArray, List.nil_append, List.cons_append]
  apply wpSIn_seq
  apply wpSIn_region
  simp [wpOpsSIn, go_sem, recoverD, hu, hta, Exit.thenS]
  refine wpSIn_of_wpIn rfl (wpIn_wide.2 ?_)
  have HU := Lib.hid hu
  clear hu
  refine Ln (F := fun w2 => Below w.heap.size w w2 /\ w2.cell? ⟨w.heap.size, 0, none⟩ = some (.int .i64 k) /\ w.heap.size < w2.heap.size) ⟨(Below.refl _ _).alloc (Nat.le_refl _) _, World.cell?_alloc_at (hn := by simp) .., by simp⟩ ?_
  rintro w2 ⟨hB, hc, hs⟩
  have d0 := Az hB hc0
  have d1 := Az hB hc1
  have d2 := Az hB hc2
  have f0 := (hB.frozen (p := ⟨b0, 0, none⟩) (by show b0 < _; omega)).trans hz0
  have f1 := (hB.frozen (p := ⟨b0 + 1, 0, none⟩) (by show b0 + 1 < _; omega)).trans hz1
  have f2 := (hB.frozen (p := ⟨b0 + 2, 0, none⟩) (by show b0 + 2 < _; omega)).trans hz2
  have n0 : ¬ b0 = w.heap.size := by omega
  have n1 : ¬ b0 + 1 = w.heap.size := by omega
  have n2 : ¬ b0 + 2 = w.heap.size := by omega
  have n3 : ¬ w.heap.size = b0 := by omega
  have HB := Lib.hid hB
  clear hB hc0 hc1 hc2 hz0 hz1 hz2
  go_wp2_with fail
  go_region
  go_wp2_with fail
  exact ⟨rfl, _, rfl, _, results_none rfl _ _ _, rfl, rfl, w2, HB.out, rfl⟩
end Go.Proofs.YtjagmmmcibdibaaGreatDoor
namespace Go.Proofs.YtjagmmmcibdibaaGreatDoor
open Go.RowKit
def roundEnd (l : Nat) (ρ : LoopState -> Option Code -> Loop) (R : Ending -> World -> Prop) : Exit -> Act -> World -> Prop
  | .normal, _, W => W.heap[l]? = some (.loop (ρ .busy none)) /\ R (.returned (.bool true)) (W.putObj l (.loop (ρ .ready none)))
  | .ret, _, W => W.heap[l]? = some (.loop (ρ .busy none)) /\ R (.returned (.bool false)) (W.putObj l (.loop (ρ .done (some .ret))))
  | .exit id, _, W => W.heap[l]? = some (.loop (ρ .busy none)) /\ R (.returned (.bool false)) (W.putObj l (.loop (ρ .done (some (.exit id)))))
  | _, _, _ => False
def rangeEnd (F : Fence) (n : Nat) (P : Program) (l : Nat) (ρ : LoopState -> Option Code -> Loop) (Q : Exit -> Act -> World -> Prop) (a' : Act) : Ending -> World -> Prop
  | .returned _, W => (W.heap[l]? = some (.loop (ρ .ready none)) /\ Q .normal a' (W.putObj l (.loop (ρ .exhausted none)))) \/
      ∃ c, W.heap[l]? = some (.loop (ρ .done (some c))) /\ c.wpIn F n P Q a' (W.putObj l (.loop (ρ .exhausted (some c))))
  | .panicked chain, W => Q (.panic chain) a' W
  | .outgrown, _ => LetsOut Q
theorem Da {F : Fence} {n : Nat} {P : Program} {g : Operand} {ps : Array Tmp} {assign body : Code} {Q : Exit -> Act -> World -> Prop} {a : Act} {w : World}
    (hro : F.round = none) (h1 : 1 <= n) {gf : Nat} {lb : Array Value} (hg : a.eval g = .func (.func gf) #[] lb) (hFg : F.fn gf) (eg : ∀ args w, (callFunc gf args).run P w = .ok (.enter gf args) w)
    (h : ∀ (ρ : LoopState -> Option Code -> Loop),
      (∀ (args : Array Value) (W : World) (R : Ending -> World -> Prop), args.size = ps.size -> W.heap[w.heap.size + 1]? = some (.loop (ρ .ready none)) ->
        assign.wpIn (F.inRound (w.heap.size + 1)) (n - 1 - 1) P (Exit.then (fun a₁ w₁ => w₁.heap[w.heap.size + 1]? = some (.loop (ρ .ready none)) /\
          body.wpIn (F.inRound (w.heap.size + 1)) (n - 1 - 1) P (roundEnd (w.heap.size + 1) ρ R) a₁ (w₁.putObj (w.heap.size + 1) (.loop (ρ .busy none)))) (fun _ _ _ => False))
          { tmps := (ps.zip args).foldl (fun t (p, v) => t.setIfInBounds p v) a.tmps, defers := [] } W ->
        YieldAt F (n - 1 - 1) P (w.heap.size + 1) args W R) ->
      CallsIn F (n - 1) P gf (#[.func (.yield (w.heap.size + 1)) #[] #[]] ++ lb) ((w.alloc (.deferred (some []))).alloc (.loop (ρ .ready none)))
        (rangeEnd F n P (w.heap.size + 1) ρ Q { a with defers := { target := .collected w.heap.size, args := #[] } :: a.defers })) :
    (Code.rangeFunc g ps assign body).wpIn F n P Q a w := by
  refine wpIn_rangeFunc ?_
  intro fn hfn
  rw [hro]
  obtain ⟨ρ, hρ⟩ : ∃ ρ : LoopState -> Option Code -> Loop, ρ = fun st pe => { state := st, pending := pe, fn, tmps := a.tmps, params := ps, assign, body, defers := w.heap.size } := ⟨_, rfl⟩
  obtain ⟨W1, hW1⟩ : ∃ W1, (w.alloc (.deferred (some []))).alloc (.loop (ρ .ready none)) = W1 := ⟨_, rfl⟩
  refine ⟨w.heap.size + 1, [{ target := .collected w.heap.size, args := #[] }], W1, { target := .fn (.func gf) lb, args := #[.func (.yield (w.heap.size + 1)) #[] #[]] }, W1, gf,
    #[.func (.yield (w.heap.size + 1)) #[] #[]] ++ lb, W1, ?_, ?_, ?_, ?_, fun _ => h1, ?_⟩
  . rw [<- hW1, hρ]; exact run_enterLoop_outer _ _ _ _ _
  . simp only [resolve, hg]
    simp [go_sem]
  . intro f' hf'; simp [Target.leads] at hf'; subst hf'; exact hFg
  . simp [invoke, go_sem, eg]
  . rw [<- hW1]
    refine (h ρ ?_).mono ?_
    . intro args W R hsz hl hw
      have hlt : w.heap.size + 1 < W.heap.size := (Array.getElem?_eq_some_iff.1 hl).1
      have hy := run_yield (P := P) (args := args) hl (by rw [hρ]; exact hsz)
      have e1 : ∀ st pe, (ρ st pe).fn = fn := by rw [hρ]; intros; rfl
      have e2 : ∀ st pe, (ρ st pe).tmps = a.tmps := by rw [hρ]; intros; rfl
      have e3 : ∀ st pe, (ρ st pe).params = ps := by rw [hρ]; intros; rfl
      have e4 : ∀ st pe, (ρ st pe).assign = assign := by rw [hρ]; intros; rfl
      have e5 : ∀ st pe, (ρ st pe).body = body := by rw [hρ]; intros; rfl
      have e6 : ∀ st pe st' pe', ({ ρ st pe with state := st', pending := pe' } : Loop) = ρ st' pe' := by rw [hρ]; intros; rfl
      have e7 : ∀ st pe, (ρ st pe).state = st := by rw [hρ]; intros; rfl
      have e8 : ∀ st pe st', ({ ρ st pe with state := st' } : Loop) = ρ st' pe := by rw [hρ]; intros; rfl
      have e9 : ∀ st pe, (ρ st pe).pending = pe := by rw [hρ]; intros; rfl
      rw [e1, e2, e3, e4, e5] at hy
      refine ⟨fn, _, assign, body, hy, roundIn_of_wpIn hfn (wpIn_mono hw ?_)⟩
      intro e a₁ w₁ he
      cases e with
      | normal =>
        obtain ⟨hl1, hb⟩ := he
        refine ⟨_, run_beginRound hl1 (e7 _ _), ?_⟩
        rw [e8]
        refine wpIn_mono hb ?_
        intro e a₂ w₂ he
        cases e with
        | normal => exact ⟨_, _, run_endRound none he.1, by have := he.2; simp only [Option.isNone_none, if_true, e6]; exact this⟩
        | ret => exact ⟨_, _, run_endRound (some .ret) he.1, by have := he.2; simp only [Option.isNone_some, Bool.false_eq_true, if_false, e6]; exact this⟩
        | exit id => exact ⟨_, _, run_endRound (some (.exit id)) he.1, by have := he.2; simp only [Option.isNone_some, Bool.false_eq_true, if_false, e6]; exact this⟩
        | goto t => exact he.elim
        | panic c => exact he.elim
        | outgrown => exact he.elim
      | ret => exact he.elim
      | exit id => exact he.elim
      | goto t => exact he.elim
      | panic c => exact he.elim
      | outgrown => exact he.elim
    . have e7 : ∀ st pe, (ρ st pe).state = st := by rw [hρ]; intros; rfl
      have e8 : ∀ st pe st', ({ ρ st pe with state := st' } : Loop) = ρ st' pe := by rw [hρ]; intros; rfl
      have e9 : ∀ st pe, (ρ st pe).pending = pe := by rw [hρ]; intros; rfl
      intro e W he
      cases e with
      | returned v =>
        rcases he with ⟨hl, hq⟩ | ⟨c, hl, hq⟩
        . refine ⟨none, _, by rw [run_endLoop hl (by rw [e7]; simp), e8, e9], hq⟩
        . refine ⟨some c, _, by rw [run_endLoop hl (by rw [e7]; simp), e8, e9], hq⟩
      | panicked chain => exact he
      | outgrown => exact he
end Go.Proofs.YtjagmmmcibdibaaGreatDoor
namespace Go.Proofs.YtjagmmmcibdibaaGreatDoor
open Go.RowKit Go.Shelf
attribute [local go_sem] Oper.semAt_some
def Px (w : World) (base : Nat) (v : Value) (l : List Tok) : Prop := w.ownsRow base 141 3 v l.length (El l)
def Kb (s : ByteArray) (w : World) (e : Ending) (w' : World) : Prop :=
  ∃ v : Value, e = .returned (.tuple #[v, .int .i64 ((Gx s.data.toList).2.1 : Int), .int .i64 (Gx s.data.toList).2.2]) /\ Px w' w.heap.size v (Gx s.data.toList).1 /\ Below w.heap.size w w'
def Blk (W : World) (b : Nat) (v : Value) (t : TypeId) : Prop := W.heap[b]? = some (.cells #[v] t (0, 0))
theorem Blk.cell {W : World} {b : Nat} {v : Value} {t : TypeId} (h : Blk W b v t) : W.cell? ⟨b, 0, none⟩ = some v := Boxed.cell h
theorem Blk.free {W : World} {b : Nat} {v : Value} {t : TypeId} (h : Blk W b v t) : W.frozen? ⟨b, 0, none⟩ = false := Boxed.frozen h
structure ScanJ (w : World) (ρ : Loop) (acc : List Tok) (W : World) : Prop where
  row : ∃ v, Blk W w.heap.size v 167 /\ W.ownsRow w.heap.size 141 3 v acc.length (El acc)
  at_ : Blk W (w.heap.size + 1) (.int .i64 0) 3
  err : Blk W (w.heap.size + 2) (.int .i64 0) 43
  mark : W.heap[w.heap.size + 4]? = some (.deferred (some []))
  loop : W.heap[w.heap.size + 5]? = some (.loop ρ)
  len : acc.length <= 2000
  below : Below w.heap.size w W
structure ScanJx (w : World) (ρ : Loop) (pos : Nat) (W : World) : Prop where
  row : Blk W w.heap.size (.slice none 0 0) 167
  at_ : Blk W (w.heap.size + 1) (.int .i64 pos) 3
  err : Blk W (w.heap.size + 2) (.int .i64 3) 43
  mark : W.heap[w.heap.size + 4]? = some (.deferred (some []))
  loop : W.heap[w.heap.size + 5]? = some (.loop ρ)
  below : Below w.heap.size w W
theorem Bk {W : World} {b : Nat} {o : Obj} (h : W.heap[b]? = some o) : b < W.heap.size := (Array.getElem?_eq_some_iff.1 h).1
theorem Gr {W W' : World} (h : Below W.heap.size W W') : W.grownBy W' none := ⟨h.os, h.tape, h.output, h.size, fun k hk _ => h.block k hk⟩
theorem ScanJ.kept {w : World} {ρ : Loop} {acc : List Tok} {W W' : World} (h : ScanJ w ρ acc W) {r : Option Nat} (hg : W.grownBy W' r)
    (hr : ∀ b, r = some b -> ∃ (C : Array Value) (t : TypeId), W.heap[b]? = some (.cells C t (0, 0)) /\ t ≠ 167 /\ t ≠ 3 /\ t ≠ 43 /\ t ≠ 141 /\ w.heap.size <= b) : ScanJ w ρ acc W' := by
  have key : ∀ (b : Nat) (o : Obj), W.heap[b]? = some o -> (∀ (C : Array Value) (t : TypeId), o = Obj.cells C t (0, 0) -> t = 167 \/ t = 3 \/ t = 43 \/ t = 141) -> W'.heap[b]? = some o := by
    intro b o hb ho
    refine (hg.block b (Bk hb) ?_).trans hb
    rintro e
    obtain ⟨C, t, hc, h1, h2, h3, h4, _⟩ := hr b e.symm
    rw [hb] at hc; cases hc
    rcases ho C t rfl with h | h | h | h <;> contradiction
  obtain ⟨v, hv, ho⟩ := h.row
  refine ⟨⟨v, key _ _ hv (by rintro C t e; cases e; simp), ?_⟩, key _ _ h.at_ (by rintro C t e; cases e; simp), key _ _ h.err (by rintro C t e; cases e; simp),
    key _ _ h.mark (by rintro C t e; cases e), key _ _ h.loop (by rintro C t e; cases e), h.len, h.below.grown hg h.below.size (fun b e => by obtain ⟨_, _, _, _, _, _, _, hb⟩ := hr b e; exact hb)⟩
  refine ho.kept hg ?_
  rcases ho.2 with ⟨rfl, _⟩ | ⟨g, cap, cur, rfl, hb, hh, _⟩
  . exact .inl rfl
  . refine .inr ?_
    intro e
    obtain ⟨C, t, hc, h1, h2, h3, h4, _⟩ := hr g (by rw [<- e]; rfl)
    rw [hh] at hc; cases hc; exact h4 rfl
theorem info_tok : (Tryz.prog.info? 141).map (fun i => (i.zero, i.size, i.bytes)) = some (some (.agg #[.int .i64 0, .string ⟨#[]⟩, .int .i64 0]), 3, 32) := by kernel_rfl
theorem und_toks : Tryz.prog.underlying 167 = some (.slice 141) := by kernel_rfl
def Ahj (w : World) (s : ByteArray) : World := (((w.alloc (.cells #[.slice none 0 0] 167)).alloc (.cells #[.int .i64 0] 3)).alloc (.cells #[.int .i64 0] 43)).alloc (.cells #[.string s] 9)
theorem F5 (w : World) (s : ByteArray) : (Ahj w s).heap.size = w.heap.size + 4 := by simp [Ahj]
theorem Yl (w : World) (s : ByteArray) : Below w.heap.size w (Ahj w s) :=
  ((((Below.refl _ _).alloc (Nat.le_refl _) _).alloc (by simp) _).alloc (by simp; omega) _).alloc (by simp; omega) _
theorem Ay {w : World} {o : Obj} {b : Nat} (h : b = w.heap.size) : (w.alloc o).heap[b]? = some o := by subst h; exact heap_alloc_new w o
theorem Ai {w : World} {o o' : Obj} {b : Nat} (h : w.heap[b]? = some o') : (w.alloc o).heap[b]? = some o' := (Below.heap_alloc w o b (Bk h)).trans h
theorem Ahk (w : World) (s : ByteArray) : Blk (Ahj w s) (w.heap.size + 3) (.string s) 9 := Ay (by simp)
theorem Yj (w : World) (s : ByteArray) (ρ : Loop) : ScanJ w ρ [] (((Ahj w s).alloc (.deferred (some []))).alloc (.loop ρ)) := by
  refine ⟨⟨_, Ai (Ai (Ai (Ai (Ai (Ay rfl))))), World.ownsRow_nil _ _ _ _⟩, Ai (Ai (Ai (Ai (Ay (by simp))))),
    Ai (Ai (Ai (Ay (by simp)))), Ai (Ay (by simp [F5])), Ay (by simp [F5]), by simp, ?_⟩
  exact ((Yl w s).alloc (by simp [F5]) _).alloc (by simp [F5]; omega) _
def KR (W W' : World) : Prop := ∀ (b : Nat) (C : Array Value) (f : Nat × Nat), W.heap[b]? = some (.cells C 232 f) -> W'.heap[b]? = some (.cells C 232 f)
theorem KR.trans {A B C : World} (h : KR A B) (k : KR B C) : KR A C := fun b c f hb => k b c f (h b c f hb)
theorem KR.rd {W W' : World} (h : KR W W') : Adk W W' := fun b _ _ hb => h b _ _ hb
theorem KR.grown {W W' : World} {r : Option Nat} (hg : W.grownBy W' r) (hr : ∀ b, r = some b -> ∃ o, W.heap[b]? = some o /\ ∀ (C : Array Value) (f : Nat × Nat), o ≠ Obj.cells C 232 f) : KR W W' := by
  intro b C f hb
  refine (hg.block b (Bk hb) ?_).trans hb
  intro e
  obtain ⟨o, ho, hn⟩ := hr b e.symm
  rw [hb] at ho; cases ho
  exact hn C f rfl
theorem KR.put {W : World} {l : Nat} {ρ : Loop} (o' : Obj) (h : W.heap[l]? = some (.loop ρ)) : KR W (W.putObj l o') :=
  KR.grown (grownBy_putObj' W l o') (fun b e => by cases e; exact ⟨_, h, fun _ _ e => by cases e⟩)
theorem KR.set {W : World} {b : Nat} {t : TypeId} {u : Value} (v : Value) (h : Boxed W b t u) (ht : t ≠ 232) : KR W (W.setCell ⟨b, 0, none⟩ v) :=
  KR.grown (grownBy_setCell' W b v) (fun b' e => by cases e; exact ⟨_, h, fun _ _ e => by cases e; exact ht rfl⟩)
theorem KR.alloc (W : World) (o : Obj) : KR W (W.alloc o) := fun _ _ _ hb => Ai hb
theorem Cf {W : World} {b l : Nat} {o o' : Obj} (h : W.heap[b]? = some o) (hne : b ≠ l) : (W.putObj l o').heap[b]? = some o := (World.putObj_heap_other hne).trans h
theorem ScanJ.put {w : World} {ρ : Loop} {acc : List Tok} {W : World} (h : ScanJ w ρ acc W) (ρ' : Loop) : ScanJ w ρ' acc (W.putObj (w.heap.size + 5) (.loop ρ')) := by
  obtain ⟨v, hv, ho⟩ := h.row
  refine ⟨⟨v, Cf hv (by omega), ownsRow_putObj ho _ h.loop rfl⟩, Cf h.at_ (by omega), Cf h.err (by omega), Cf h.mark (by omega), World.putObj_heap_same (Bk h.loop), h.len, ?_⟩
  exact h.below.grown (grownBy_putObj' W _ _) h.below.size (fun b e => by cases e; omega)
theorem ScanJx.put {w : World} {ρ : Loop} {pos : Nat} {W : World} (h : ScanJx w ρ pos W) (ρ' : Loop) : ScanJx w ρ' pos (W.putObj (w.heap.size + 5) (.loop ρ')) := by
  refine ⟨Cf h.row (by omega), Cf h.at_ (by omega), Cf h.err (by omega), Cf h.mark (by omega), World.putObj_heap_same (Bk h.loop), ?_⟩
  exact h.below.grown (grownBy_putObj' W _ _) h.below.size (fun b e => by cases e; omega)
theorem Ar {W : World} {b b' : Nat} {o : Obj} (h : W.heap[b]? = some o) (hne : b ≠ b') (v : Value) : (W.setCell ⟨b', 0, none⟩ v).heap[b]? = some o := (Below.heap_setCell W ⟨b', 0, none⟩ v b hne).trans h
theorem ScanJ.appended {w : World} {ρ : Loop} {acc : List Tok} {W2 w1 : World} {v v' : Value} {tmp : Obj} (t : Tok) (h : ScanJ w ρ acc W2) (hv : Blk W2 w.heap.size v 167)
    (hrow : W2.ownsRow w.heap.size 141 3 v acc.length (El acc)) (hown' : w1.ownsRow w.heap.size 141 3 v' (acc.length + 1) (El acc ++ t.cells))
    (hgrow : (W2.alloc tmp).grownBy w1 v.ownBlock) (hlen : acc.length ≠ 2000) :
    Boxed w1 w.heap.size 167 v /\ ScanJ w ρ (acc ++ [t]) (w1.setCell ⟨w.heap.size, 0, none⟩ v') /\ KR W2 (w1.setCell ⟨w.heap.size, 0, none⟩ v') := by
  obtain ⟨hv1, hv2, hr2, hk2, hb2⟩ := Boxed.appended hv (by decide) hrow h.below.size (Nat.le_refl _) hown' hgrow
  have hs : ∀ (b : Nat) (u : Value) (ty : TypeId), Blk W2 b u ty -> ty ≠ 141 -> b ≠ w.heap.size -> Blk (w1.setCell ⟨w.heap.size, 0, none⟩ v') b u ty := by
    intro b u ty hb ht hne
    have h1 : Boxed w1 b ty u := (Boxed.alloc hb tmp).kept hgrow (Boxed.not_row hb ht hrow)
    exact Ar h1 hne v'
  refine ⟨hv1, ⟨⟨v', hv2, by rw [S9, List.length_append]; exact hr2⟩, hs _ _ _ h.at_ (by decide) (by omega), hs _ _ _ h.err (by decide) (by omega), hk2.same _ _ h.mark rfl, hk2.same _ _ h.loop rfl,
    by rw [List.length_append]; have := h.len; simp; omega, h.below.trans hb2⟩, ?_⟩
  refine ((KR.alloc W2 tmp).trans (KR.grown hgrow ?_)).trans (KR.set v' hv1 (by decide))
  intro b e
  rcases hrow.2 with ⟨rfl, _⟩ | ⟨g, cap, cur, rfl, _, hh, _⟩
  . simp [Value.ownBlock] at e
  . obtain rfl : g = b := by simpa [Value.ownBlock] using e
    exact ⟨_, Ai hh, fun C f e => by cases e⟩
theorem Qp (w X : World) (tmps : Array Value) (v : Value) (toks : List Tok) (pos : Nat) (err : Int) (R : Ending -> World -> Prop)
    (h0 : Blk X w.heap.size v 167) (h1 : Blk X (w.heap.size + 1) (.int .i64 pos) 3) (h2 : Blk X (w.heap.size + 2) (.int .i64 err) 43)
    (hm : X.heap[w.heap.size + 4]? = some (.deferred (some []))) (ho : Px X w.heap.size v toks) (hb : Below w.heap.size w X)
    (hres : ∀ X' : World, X'.cell? ⟨w.heap.size, 0, none⟩ = some v -> X'.cell? ⟨w.heap.size + 1, 0, none⟩ = some (.int .i64 pos) -> X'.cell? ⟨w.heap.size + 2, 0, none⟩ = some (.int .i64 err) ->
      (results Tryz.f106 tmps).run Tryz.prog X' = .ok (.tuple #[v, .int .i64 pos, .int .i64 err]) X')
    (hR : ∀ X', Px X' w.heap.size v toks -> Below w.heap.size w X' -> R (.returned (.tuple #[v, .int .i64 pos, .int .i64 err])) X') :
    LeavesInM Fence.wide 6 Tryz.prog Tryz.f106 tmps R [{ target := .collected (w.heap.size + 4), args := #[] }, { target := .fn (.func 139) #[.pointer (some ⟨w.heap.size, 0, none⟩), .pointer (some ⟨w.heap.size + 1, 0, none⟩), .pointer (some ⟨w.heap.size + 2, 0, none⟩)], args := #[] }] .returning X := by
  refine ⟨by simp, .inl ⟨_, _, rfl, run_takeDeferred hm, ?_⟩⟩
  have h0' := Cf (o' := .deferred none) h0 (show w.heap.size ≠ w.heap.size + 4 by omega)
  have h1' := Cf (o' := .deferred none) h1 (show w.heap.size + 1 ≠ w.heap.size + 4 by omega)
  have h2' := Cf (o' := .deferred none) h2 (show w.heap.size + 2 ≠ w.heap.size + 4 by omega)
  have ho' : Px (X.putObj (w.heap.size + 4) (.deferred none)) w.heap.size v toks := ownsRow_putObj ho _ hm rfl
  have hb' := hb.grown (grownBy_putObj' X (w.heap.size + 4) (.deferred none)) hb.size (fun b e => by cases e; omega)
  refine ⟨by simp, .inr ⟨by simp [Fence.wide], .func 139, _, 139, #[.pointer (some ⟨w.heap.size, 0, none⟩), .pointer (some ⟨w.heap.size + 1, 0, none⟩), .pointer (some ⟨w.heap.size + 2, 0, none⟩)], rfl, by simp [go_sem], fun _ _ => trivial, ?_⟩⟩
  refine (Aco _ _ _ _ _).mono ?_
  rintro e u' X2 ⟨rfl, rfl, hb2⟩
  refine ⟨_, hres X2 (Blk.cell ((hb2.block _ (Bk h0')).trans h0')) (Blk.cell ((hb2.block _ (Bk h1')).trans h1')) (Blk.cell ((hb2.block _ (Bk h2')).trans h2')), ?_⟩
  exact hR X2 (ho'.kept (Gr hb2) (by rcases ho'.2 with ⟨rfl, _⟩ | ⟨g, cap, cur, rfl, _⟩ <;> simp [Value.ownBlock])) (hb'.trans (hb2.mono hb'.size))
theorem ScanJ.stored {w X : World} {ρ : Loop} {acc : List Tok} {v : Value} (h : ScanJ w ρ acc X) (hv : Blk X w.heap.size v 167) (hrow : X.ownsRow w.heap.size 141 3 v acc.length (El acc)) (R : World -> Prop)
    (k : ∀ Y, Blk Y w.heap.size v 167 -> Blk Y (w.heap.size + 1) (.int .i64 0) 3 -> Blk Y (w.heap.size + 2) (.int .i64 0) 43 -> Y.heap[w.heap.size + 4]? = some (.deferred (some [])) -> Px Y w.heap.size v acc -> Below w.heap.size w Y -> R Y) :
    R (((X.setCell ⟨w.heap.size, 0, none⟩ v).setCell ⟨w.heap.size + 1, 0, none⟩ (.int .i64 0)).setCell ⟨w.heap.size + 2, 0, none⟩ (.int .i64 0)) := by
  have b1 : Boxed (X.setCell ⟨w.heap.size, 0, none⟩ v) (w.heap.size + 1) 3 (.int .i64 0) := Ar h.at_ (by omega) _
  have b2 : Boxed (X.setCell ⟨w.heap.size, 0, none⟩ v) (w.heap.size + 2) 43 (.int .i64 0) := Ar h.err (by omega) _
  have b2' : Boxed ((X.setCell ⟨w.heap.size, 0, none⟩ v).setCell ⟨w.heap.size + 1, 0, none⟩ (.int .i64 0)) (w.heap.size + 2) 43 (.int .i64 0) := Ar b2 (by omega) _
  have r1 := hrow.kept (grownBy_setCell' X w.heap.size v) (.inr (Boxed.not_row hv (by decide) hrow).symm)
  have r2 := r1.kept (grownBy_setCell' _ (w.heap.size + 1) (.int .i64 0)) (.inr (Boxed.not_row b1 (by decide) r1).symm)
  have r3 := r2.kept (grownBy_setCell' _ (w.heap.size + 2) (.int .i64 0)) (.inr (Boxed.not_row b2' (by decide) r2).symm)
  refine k _ (Ar (Ar (Boxed.set _ hv) (by omega) _) (by omega) _) (Ar (Boxed.set _ b1) (by omega) _) (Boxed.set _ b2') (Ar (Ar (Ar h.mark (by omega) _) (by omega) _) (by omega) _) r3 ?_
  exact ((h.below.setCell (p := ⟨w.heap.size, 0, none⟩) (Nat.le_refl _) _).setCell (p := ⟨w.heap.size + 1, 0, none⟩) (Nat.le_succ _) _).setCell (p := ⟨w.heap.size + 2, 0, none⟩) (by show _ <= _ + 2; omega) _
theorem Yk {l : List UInt8} (h : l.length <= 20000) : Gx l = Ds l.length (l.length + 1) l [] := by unfold Gx; rw [if_neg (by omega)]
theorem scanG_ok (n f : Nat) (l : List UInt8) (acc : List Tok) (h : (Ds n f l acc).2.2 = 0) : (Ds n f l acc).2.1 = 0 := by
  induction f generalizing l acc with
  | zero => rfl
  | succ f ih =>
    rw [Ds] at h |-
    split
    . rfl
    . rename_i h1
      rw [if_neg h1] at h
      split
      . rename_i h2; rw [if_pos h2] at h; simp at h
      . rename_i h2
        rw [if_neg h2] at h
        split
        . rename_i h3; rw [if_pos h3] at h; simp at h
        . rename_i h3; rw [if_neg h3] at h; exact ih _ _ h
set_option maxRecDepth 100000 in
set_option maxHeartbeats 4000000 in
theorem Acr (s : ByteArray) (w : World) (hs : s.size <= 20000) : Calls Tryz.prog 106 #[.string s] w (Kb s w) := by
  refine (callsIn_wide (n := 6)).1 ?_
  have hmf : ∀ (fn : Fn) (first cap : Array Value) (w : World), (Instr.makeFunc fn first cap).run Tryz.prog w = .ok (.func fn first cap) w := fun _ _ _ _ => rfl
  refine callsIn_of_wp_marks Tryz.func106 rfl trivial ?_ rfl
  simp only [Tryz.ntmps106, List.size_toArray, List.length_cons, List.length_nil, Nat.reduceAdd, Nat.reduceSub, Array.replicate_succ, Array.replicate_zero, List.push_toArray, List.append_toArray, List.nil_append, List.cons_append]
  have hdec : decide (20000 < (s.size : Int)) = false := by simp; omega
  gi_wp2_with fail
  refine ⟨trivial, (callsIn_wide.2 (Ac7 s _)).mono ?_⟩
  rintro e w' ⟨rfl, rfl⟩
  gi_wp2
  refine Da rfl (by omega) (gf := 168) (lb := #[.pointer (some ⟨w.heap.size + 3, 0, none⟩)]) rfl trivial (enters_of Tryz.func168 (by kernel_rfl) rfl) ?_
  intro ρ hround
  have esz : ((((w.alloc (.cells #[.slice none 0 0] 167)).alloc (.cells #[.int .i64 0] 3)).alloc (.cells #[.int .i64 0] 43)).alloc (.cells #[.string s] 9)).heap.size = w.heap.size + 4 := F5 w s
  rw [esz] at hround |-
  simp only [Nat.add_assoc, Nat.reduceAdd] at hround |-
  have HJ0 := Lib.hid (Yj w s (ρ .ready none))
  clear esz hmf
  refine (Yt 4 (w.heap.size + 5) (w.heap.size + 3) s (ScanJ w (ρ .ready none)) (ScanJx w (ρ .done (some .ret))) _ hs ?_ ?_ ?_ ?_ HJ0.out).mono ?_
  . exact Blk.cell (Ai (Ai (Ahk w s)))
  . intro acc W W' hJ hb
    exact hJ.kept (Gr hb) (fun b e => by cases e)
  . intro acc W W' b k hle hJ hR hg
    refine hJ.kept hg ?_
    rintro b' e
    cases e
    exact ⟨_, _, hR, by decide, by decide, by decide, by decide, by simp [F5] at hle; omega⟩
  . rintro acc ⟨kd, tl, pos⟩ W hJ
    show YieldAt Fence.wide 4 Tryz.prog (w.heap.size + 5) #[.agg #[.int .i64 kd, .string (Cs tl), .int .i64 (pos : Int)]] W _
    refine hround #[.agg #[.int .i64 kd, .string (Cs tl), .int .i64 (pos : Int)]] W _ rfl hJ.loop ?_
    clear hround
    gi_wp2
    have ht0 : Di (W.alloc (.cells #[.int .i64 kd, .string (Cs tl), .int .i64 (pos : Int)] 141)) W.heap.size kd (Cs tl) pos := heap_alloc_new W _
    have hJ1 : ScanJ w (ρ .ready none) acc (W.alloc (.cells #[.int .i64 kd, .string (Cs tl), .int .i64 (pos : Int)] 141)) := hJ.kept (Gr ((Below.refl _ _).alloc (Nat.le_refl _) _)) (fun b e => by cases e)
    refine ⟨hJ1.loop, ?_⟩
    refine Q3 (G := fun W2 => Di W2 W.heap.size kd (Cs tl) pos /\ ScanJ w (ρ .busy none) acc W2 /\ W.grownBy W2 (some (w.heap.size + 5)) /\ W.heap.size < W2.heap.size) ⟨?_, ?_, ?_, by simp⟩ ?_
    . exact Cf ht0 (by have := Bk hJ.loop; omega)
    . exact hJ1.put _
    . exact ⟨rfl, rfl, rfl, by simp, fun k hk hne => (World.putObj_heap_other (by simpa using hne)).trans (Below.heap_alloc W _ k hk)⟩
    rintro W2 ⟨hT, hJ2, hg2, hlt2⟩
    obtain ⟨v, hv, hrow⟩ := hJ2.row
    obtain ⟨pp, cap, rfl⟩ := Mp hrow
    have c0 := hv.cell
    have c1 := hJ2.at_.cell
    have c2 := hJ2.err.cell
    have f0 := hv.free
    have f1 := hJ2.at_.free
    have f2 := hJ2.err.free
    have t0 := hT.cells
    have hlen := hJ2.len
    have hlw := hJ2.below.size
    have hsz := Bk hJ2.loop
    have HJ2 := Lib.hid hJ2
    have HT := Lib.hid hT
    have HG := Lib.hid hg2
    have HV := Lib.hid hv
    have HROW := Lib.hid hrow
    have HLP := Lib.hid hJ.loop
    clear hJ2 hT hg2 hv hrow hJ hJ1 ht0 hdec
    by_cases h2000 : acc.length = 2000
    . have hd : ((acc.length : Int) == 2000) = true := by rw [h2000]; rfl
      have H2 := Lib.hid h2000
      clear h2000
      have hmix : Tryz.prog.follows .mixedOrders = true := by kernel_rfl
      have HX : Hid (ScanJx w (ρ .busy none) pos ((((W2.setCell ⟨w.heap.size, 0, none⟩ (.slice none 0 0)).setCell ⟨w.heap.size + 1, 0, none⟩ (.int .i64 (pos : Int))).setCell ⟨w.heap.size + 2, 0, none⟩ (.int .i64 3)).drew)) := Lib.hid (by
        have h := HJ2.out
        have hr := HV.out
        refine ⟨?_, ?_, ?_, ?_, ?_, ?_⟩
        . exact Ar (Ar (Boxed.set _ hr) (by omega) _) (by omega) _
        . exact Ar (Boxed.set _ (Ar h.at_ (by omega) _)) (by omega) _
        . exact Boxed.set _ (Ar (Ar h.err (by omega) _) (by omega) _)
        . exact Ar (Ar (Ar h.mark (by omega) _) (by omega) _) (by omega) _
        . exact Ar (Ar (Ar h.loop (by omega) _) (by omega) _) (by omega) _
        . exact (((h.below.setCell (p := ⟨w.heap.size, 0, none⟩) (Nat.le_refl _) _).setCell (p := ⟨w.heap.size + 1, 0, none⟩) (Nat.le_succ _) _).setCell (p := ⟨w.heap.size + 2, 0, none⟩) (by show _ <= _ + 2; omega) _).drew)
      gi_wp2
      gi_region_with_o (fail)
      all_goals gi_wp2
      all_goals exact ⟨HX.out.loop, .inr ⟨H2.out, rfl, HX.out.put _⟩⟩
    . have hd : ((acc.length : Int) == 2000) = false := by simp; omega
      obtain ⟨i0, hi, hz0, hz1, hz2⟩ := info_parts info_tok
      gi_wp2_with (gi_at_builtin; refine wpListIn_append_own _ rfl _ _ 167 rfl w.heap.size 141 i0 (.agg #[.int .i64 0, .string ⟨#[]⟩, .int .i64 0]) 3 32 und_toks hi hz0 hz1 hz2 rfl (by decide) _ _ _ rfl (HROW.out.alloc _) ⟨W2.heap.size, 0, none⟩ 1 1 [.int .i64 kd, .string (Cs tl), .int .i64 (pos : Int)] rfl rfl (T0 _ _ _) (by simp [Value.oneCell']) (by simp [maxLen]; omega) (by omega) (by simp; omega) ?_; intro v' w1 hown' hgrow _; obtain ⟨g', cap', rfl⟩ := ownsRow_succ hown'; obtain ⟨hv1, hJ3, hkr⟩ := HJ2.out.appended ⟨kd, tl, pos⟩ HV.out HROW.out hown' hgrow h2000; have hc1 := hv1.cell; have hf1 := hv1.frozen)
      have hk1 : KR W W2 := KR.grown HG.out (fun b e => by cases e; exact ⟨_, HLP.out, fun _ _ e => by cases e⟩)
      exact ⟨hJ3.loop, .inl ⟨h2000, rfl, hJ3.put _, ((hk1.trans hkr).trans (KR.put _ hJ3.loop)).rd⟩⟩
  . have hsc : Gx s.data.toList = Ds s.data.toList.length (s.data.toList.length + 1) s.data.toList [] := Yk (by simpa using hs)
    have HR : ∀ e X, Kb s w e X <-> ∃ v : Value, e = .returned (.tuple #[v, .int .i64 ((Ds s.data.toList.length (s.data.toList.length + 1) s.data.toList []).2.1 : Int), .int .i64 (Ds s.data.toList.length (s.data.toList.length + 1) s.data.toList []).2.2]) /\ Px X w.heap.size v (Ds s.data.toList.length (s.data.toList.length + 1) s.data.toList []).1 /\ Below w.heap.size w X := by
      intro e X; rw [<- hsc]; exact Iff.rfl
    have HR2 := Lib.hid HR
    clear HR hsc
    intro e W hW
    have HW := Lib.hid hW
    unfold Adn at HW
    clear hW
    have hok := scanG_ok s.data.toList.length (s.data.toList.length + 1) s.data.toList []
    obtain ⟨r, hr⟩ : ∃ r, Ds s.data.toList.length (s.data.toList.length + 1) s.data.toList [] = r := ⟨_, rfl⟩
    rw [hr] at HW HR2 hok
    have HOK := Lib.hid hok
    clear hr hok
    rcases HW.out with ⟨h0, rfl, hJ⟩ | ⟨h3, hnil, rfl, hJ⟩ | ⟨h340, hnil, rfl, acc, hJ⟩
    . have HS := Lib.hid h0
      have hscan1 : r.2.2 = 0 := h0
      refine .inl ⟨hJ.loop, ?_⟩
      have hJ' := hJ.put (ρ .exhausted none)
      obtain ⟨v, hv, hrow⟩ := hJ'.row
      obtain ⟨pp, cap, rfl⟩ := Mp hrow
      have c0 := hv.cell
      have c1 := hJ'.at_.cell
      have c2 := hJ'.err.cell
      have f0 := hv.free
      have f1 := hJ'.at_.free
      have f2 := hJ'.err.free
      have HJ' := Lib.hid hJ'
      have HV := Lib.hid hv
      have HROW := Lib.hid hrow
      clear hv hrow hJ' hJ hround HJ0 h0 hscan1
      gi_wp2
      refine ScanJ.stored HJ'.out HV.out HROW.out (bodyPostM Fence.wide 6 Tryz.prog Tryz.f106 (Kb s w) .ret _) ?_
      intro Y y0 y1 y2 ym yo yb
      refine Qp w Y _ _ r.1 0 0 _ y0 y1 y2 ym yo yb ?_ ?_
      . intro X' q0 q1 q2
        simp [results, Tryz.results106, go_sem, q0, q1, q2]
      . intro X' hX hB
        exact (HR2.out _ _).2 ⟨_, by rw [HOK.out HS.out, HS.out], hX, hB⟩
    . refine .inr ⟨_, hJ.loop, ?_⟩
      have hx := hJ.put (ρ .exhausted (some .ret))
      have HX := Lib.hid hx
      have H3 := Lib.hid h3
      have HN := Lib.hid hnil
      clear hx hJ hround HJ0 h3 hnil
      gi_wp2
      refine Qp w _ _ _ [] r.2.1 3 _ HX.out.row HX.out.at_ HX.out.err HX.out.mark (World.ownsRow_nil _ _ _ _) HX.out.below ?_ ?_
      . intro X' q0 q1 q2
        simp [results, Tryz.results106, go_sem, q0, q1, q2]
      . intro X' hX hB
        refine (HR2.out _ _).2 ⟨_, by rw [H3.out], by rw [HN.out]; exact hX, hB⟩
    . have H3 := Lib.hid h340
      have HN := Lib.hid hnil
      obtain ⟨v, hv, hrow⟩ := hJ.row
      refine ⟨by simp, .inl ⟨_, _, rfl, run_takeDeferred hJ.mark, ?_⟩⟩
      have y0 := Cf (o' := .deferred none) hv (show w.heap.size ≠ w.heap.size + 4 by omega)
      have y1 := Cf (o' := .deferred none) hJ.at_ (show w.heap.size + 1 ≠ w.heap.size + 4 by omega)
      have y2 := Cf (o' := .deferred none) hJ.err (show w.heap.size + 2 ≠ w.heap.size + 4 by omega)
      have hb' := hJ.below.grown (grownBy_putObj' W (w.heap.size + 4) (.deferred none)) hJ.below.size (fun b e => by cases e; omega)
      have hsz := Bk y2
      refine ⟨by simp, .inr ⟨by simp [Fence.wide], .func 139, _, 139, #[.pointer (some ⟨w.heap.size, 0, none⟩), .pointer (some ⟨w.heap.size + 1, 0, none⟩), .pointer (some ⟨w.heap.size + 2, 0, none⟩)], rfl, by simp [go_sem], fun _ _ => trivial, ?_⟩⟩
      refine (Ahg _ w.heap.size r.2.1 [] _ v _ _ (Blk.cell y0) (Blk.cell y1) (Blk.cell y2) (Blk.free y0) (Blk.free y1) (Blk.free y2) hsz).mono ?_
      rintro e u' X2 ⟨rfl, rfl, w2, hb2, rfl⟩
      have z0 := (hb2.block _ (Bk y0)).trans y0
      have z1 := (hb2.block _ (Bk y1)).trans y1
      have z2 := (hb2.block _ (Bk y2)).trans y2
      have q0 : Blk (((w2.setCell ⟨w.heap.size, 0, none⟩ (.slice none 0 0)).setCell ⟨w.heap.size + 1, 0, none⟩ (.int .i64 r.2.1)).setCell ⟨w.heap.size + 2, 0, none⟩ (.int .i64 340)).drew w.heap.size (.slice none 0 0) 167 := Ar (Ar (Boxed.set _ z0) (by omega) _) (by omega) _
      have q1 : Blk (((w2.setCell ⟨w.heap.size, 0, none⟩ (.slice none 0 0)).setCell ⟨w.heap.size + 1, 0, none⟩ (.int .i64 r.2.1)).setCell ⟨w.heap.size + 2, 0, none⟩ (.int .i64 340)).drew (w.heap.size + 1) (.int .i64 r.2.1) 3 := Ar (Boxed.set _ (Ar z1 (by omega) _)) (by omega) _
      have q2 : Blk (((w2.setCell ⟨w.heap.size, 0, none⟩ (.slice none 0 0)).setCell ⟨w.heap.size + 1, 0, none⟩ (.int .i64 r.2.1)).setCell ⟨w.heap.size + 2, 0, none⟩ (.int .i64 340)).drew (w.heap.size + 2) (.int .i64 340) 43 := Boxed.set _ (Ar (Ar z2 (by omega) _) (by omega) _)
      refine ⟨.tuple #[.slice none 0 0, .int .i64 r.2.1, .int .i64 340], ?_, (HR2.out _ _).2 ⟨.slice none 0 0, by rw [H3.out], by rw [HN.out]; exact World.ownsRow_nil _ _ _ _, ?_⟩⟩
      . have p0 := Blk.cell q0
        have p1 := Blk.cell q1
        have p2 := Blk.cell q2
        generalize (((w2.setCell ⟨w.heap.size, 0, none⟩ (.slice none 0 0)).setCell ⟨w.heap.size + 1, 0, none⟩ (.int .i64 r.2.1)).setCell ⟨w.heap.size + 2, 0, none⟩ (.int .i64 340)).drew = Y at p0 p1 p2 |-
        simp [results, Tryz.results106, go_sem, p0, p1, p2]
      . exact (((hb'.trans (hb2.mono hb'.size)).setCell (p := ⟨w.heap.size, 0, none⟩) (Nat.le_refl _) _).setCell (p := ⟨w.heap.size + 1, 0, none⟩) (Nat.le_succ _) _).setCell (p := ⟨w.heap.size + 2, 0, none⟩) (by show _ <= _ + 2; omega) _ |>.drew
set_option maxRecDepth 100000 in
set_option maxHeartbeats 1000000 in
theorem Ahl (s : ByteArray) (w : World) (hs : 20000 < s.size) : Calls Tryz.prog 106 #[.string s] w (Kb s w) := by
  go_enter Tryz.func106, Tryz.ntmps106
  have hdec : decide (20000 < (s.size : Int)) = true := by simp; omega
  go_wp2
  have hsc : Gx s.data.toList = ([], 0, 3) := by unfold Gx; rw [if_pos (by simpa using hs)]
  refine bodyPost_ret (v := .tuple #[.slice none 0 0, .int .i64 0, .int .i64 3]) (by simp [results, Tryz.results106, go_sem]) rfl ?_
  refine ⟨.slice none 0 0, by rw [hsc]; rfl, by rw [hsc]; exact World.ownsRow_nil _ _ _ _, ?_⟩
  exact (((Below.refl _ _).alloc (Nat.le_refl _) _).alloc (by simp) _).alloc (by simp; omega) _
theorem scan_any (s : ByteArray) (w : World) : Calls Tryz.prog 106 #[.string s] w (Kb s w) := by
  rcases Nat.lt_or_ge 20000 s.size with h | h
  . exact Ahl s w h
  . exact Acr s w h
end Go.Proofs.YtjagmmmcibdibaaGreatDoor
