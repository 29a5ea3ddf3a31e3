/- A part of the proofs of some statements of this chapter: texts of these claims, merged. -/
import Derived.Below
import Derived.WalkKit
import Derived.BigQuiet
import Derived.Lib.Hide
import Derived.ControlIn
import Derived.OwnWalkIn
import Derived.Lib.ItoaNum
import Derived.OrdersIn
import Derived.TacticsIn
import Derived.Deep.MidRow
import Derived.OpenShut
import Derived.Lib.SmallJoins
import Derived.Laws.Tables
import Derived.Laws.OwnMore
import Derived.Orders
import Derived.Test.YtiledamgmppcmaaGreatDoorProg
import Derived.Shelf.Abstract
import Derived.Test.YtiledamgmppcmaaGreatDoorRows
import Derived.Carry
import Derived.Lib.LaidU8
import Derived.Lib.LaidTab
import Derived.Lay
import Derived.MakeChecks
import Derived.Laws.Strings
import Derived.WalkSpells
import Derived.WalkLawsBesides
import Derived.Laws.EntriesVeiled
import Derived.Deep.RegionHeld3
import Derived.Deep.QuietTactic
import Derived.Lib.Bytealg
import Derived.Shelf.Strings.Builder1
import Derived.Shelf.Small.Strs
import Derived.Shelf.Small.Wraps
import Derived.Shelf.Strings.BuilderF
import Derived.Shelf.Strings.BuilderK
import Derived.Shelf.Strconv.Atoi
import Derived.Shelf.Strconv.Itoa0
import Derived.Shelf.Strconv.Itoa1
import Derived.Shelf.LaysM
import Derived.Shelf.Strconv.Itoa2
import Derived.Shelf.Strconv.Itoa3
import Derived.Shelf.Strconv.AtoiErrFast
import Derived.Shelf.Strconv.ParseIntEmpty
import Derived.Shelf.Strconv.AtoiFail
import Derived.Shelf.Strconv.Clone
import Derived.Shelf.Strconv.SyntaxError
import Derived.Shelf.LaysC
import Derived.Shelf.Strconv.ToError
import Derived.Shelf.Strconv.AtoiErr
import Derived.Shelf.Strconv.ErrVar
import Derived.Shelf.Strconv.Lower
import Derived.Shelf.Strconv.ParseUint10
import Derived.Shelf.Strconv.ParseUint10Empty
import Derived.Shelf.Strconv.ParseUint10Any
import Derived.Shelf.Strconv.ParseInt10
import Derived.Shelf.Strconv.AtoiLong
import Derived.Shelf.Strconv.AtoiInnerAll
import Derived.Shelf.Strconv.RangeError
import Derived.Shelf.Strconv.ToErrorRange
import Derived.Shelf.Strconv.AtoiAll
import Derived.Shelf.Strconv.ErrVarAll
import Derived.Shelf.Strconv.ParseUintEmpty
import Derived.Shelf.Strconv.ParseUint10b64
import Derived.Shelf.Strconv.ParseUint10b32
import Derived.Shelf.Strconv.ParseUint10b16
import Derived.Shelf.Strconv.ParseUint10b8
import Derived.Shelf.Strconv.ParseUint10At
import Derived.Ground.MpProg
import Derived.Shelf.Pu.ParseUintPublic10
import Derived.Shelf.Pu.ErrVarParseUint
import Derived.Shelf.Strings.Search1
import Derived.Shelf.Strings.Search2
import Derived.Shelf.Strings.Cut
import Derived.Shelf.Strings.Shaped
import Derived.Shelf.Strings.Prefix
import Derived.Deep.DeepCutAuto
import Derived.Lib.IndexBytes
import Derived.Deep.LoopGhost
import Derived.StillTail
import Derived.BigRegion
import Derived.Deep.CutBlock
import Derived.RangeFuncBox
import Derived.RangeFuncLeaves
import Derived.RangeFuncCalls
import Derived.TacticsInMore
import Derived.LoopNIn
import Derived.LoopIn
import Derived.RecoverIn
import Derived.RangeFuncNested
import Derived.Maps.AppendAt
import Derived.Shelf.RegionOpen
import Derived.Laws.StructEq
import Derived.Lib.Join
import Derived.Deep.AppendLies
import Derived.Deep.RegionLaw
import Derived.Laws.Rows
import Derived.RangeFuncOwn
import Derived.Laws.MakeOwn
import Derived.Test.YtiledamgmppcmaaGreatDoorZE4
set_option linter.unusedVariables false
set_option linter.unusedSimpArgs false
set_option linter.unusedSectionVars false
set_option linter.all false
namespace Go.Proofs.YtiledamgmppcmaaGreatDoor
open Go.RowKit Go.ChangeShapes Go.ChangeAt
section
variable (P : Program)
def Fo : Nat -> List Field -> Nat -> Bool
  | off, [], n => Nat.beq off n
  | off, f :: r, n => Nat.beq f.offset off && Fo (off + P.cellsOf f.type) r n
def Ri (ts : List TypeId) (t : TypeId) : Bool := match P.underlying t with
  | some .bool => true
  | some (.int _) => true
  | some .string => true
  | some (.slice e) => ts.any (Nat.beq e) && Nat.blt 0 (P.cellsOf e)
  | some (.struct fs) => fs.toList.all (fun f => ts.any (Nat.beq f.type)) && Fo P 0 fs.toList (P.cellsOf t)
  | some (.array m e) => ts.any (Nat.beq e) && Nat.beq (m * P.cellsOf e) (P.cellsOf t)
  | _ => false
def Jj (ts : List TypeId) : Bool := ts.all (Ri P ts)
def Shp : Nat -> TypeId -> List DV -> Prop
  | 0, _, _ => False
  | n + 1, t, ds => match P.underlying t with
    | some .bool => ∃ b, ds = [.v (.bool b)]
    | some (.int k) => ∃ z, ds = [.v (.int k z)] /\ (Lit.int k z).wf = true
    | some .string => ∃ s : ByteArray, ds = [.v (.string s)] /\ s.size <= 9223372036854775807
    | some (.slice e) => ∃ l, ds = [.sl (P.cellsOf e) l] /\ l.length <= 9223372036854775807 /\ ∀ x ∈ l, Shp n e x
    | some (.struct fs) => ∃ parts : List (List DV), ds = parts.flatten /\ parts.length = fs.size /\ ∀ (i : Nat) (f : Field) (p : List DV), fs[i]? = some f -> parts[i]? = some p -> Shp n f.type p
    | some (.array m e) => ∃ parts : List (List DV), ds = parts.flatten /\ parts.length = m /\ ∀ p ∈ parts, Shp n e p
    | _ => False
end
section
variable {P : Program} {K : Kx} {w : World}
theorem Fw : ∀ {parts : List (List DV)} {cs : List (List Value)}, parts.length = cs.length -> (∀ (i : Nat) (p : List DV) (c : List Value), parts[i]? = some p -> cs[i]? = some c -> Bm K w (p.map .d) c) -> Bm K w (parts.flatten.map .d) cs.flatten
  | [], [], _, _ => rfl
  | p :: ps, c :: cs, hl, h => by
    rw [List.flatten_cons, List.flatten_cons, List.map_append]
    exact Bm.append (h 0 p c rfl rfl) (Fw (by simpa using hl) fun i p c hp hc => h (i + 1) p c hp hc)
  | [], _ :: _, hl, _ => by simp at hl
  | _ :: _, [], hl, _ => by simp at hl
theorem Fp : ∀ {fs : List Field} {off n : Nat} {cs : List Value}, Fo P off fs n = true -> cs.length = n -> (fs.map fun f => (cs.drop f.offset).take (P.cellsOf f.type)).flatten = cs.drop off
  | [], off, n, cs, h, hl => by
    simp only [Fo] at h
    obtain rfl := Nat.eq_of_beq_eq_true h
    rw [List.drop_of_length_le (by omega)]; rfl
  | f :: r, off, n, cs, h, hl => by
    simp only [Fo, Bool.and_eq_true] at h
    have e := Nat.eq_of_beq_eq_true h.1
    rw [List.map_cons, List.flatten_cons, Fp h.2 hl, e, <- List.drop_drop, List.take_append_drop]
theorem Ip (c : Nat) : ∀ (m : Nat) {cs : List Value}, cs.length = m * c -> ((List.range m).map fun i => (cs.drop (i * c)).take c).flatten = cs
  | 0, cs, h => by
    have : cs = [] := List.length_eq_zero_iff.1 (by simpa using h)
    subst this; rfl
  | m + 1, cs, h => by
    have h1 := Ip c m (cs := cs.take (m * c)) (by rw [List.length_take, h, Nat.succ_mul]; omega)
    rw [List.range_succ, List.map_append, List.flatten_append]
    have h2 : (List.range m).map (fun i => (cs.drop (i * c)).take c) = (List.range m).map (fun i => ((cs.take (m * c)).drop (i * c)).take c) := by
      refine List.map_congr_left fun i hi => ?_
      have hi : i < m := List.mem_range.1 hi
      rw [List.drop_take, List.take_take]
      congr 1
      have : (i + 1) * c <= m * c := Nat.mul_le_mul_right c hi
      rw [Nat.succ_mul] at this
      omega
    rw [h2, h1]
    simp only [List.map_cons, List.map_nil, List.flatten_cons, List.flatten_nil, List.append_nil]
    rw [List.take_of_length_le (l := cs.drop (m * c)) (by rw [List.length_drop, h, Nat.succ_mul]; omega), List.take_append_drop]
theorem Nk {a : Addr} {n : Nat} {v : Value} (h : w.cell? (a.add n) = some v) : a.block < w.heap.size /\ (n = 0 -> a.spot = none) := by
  unfold World.cell? Addr.add at h
  split at h
  . rename_i c t f hh
    have hb : (if n = 0 then a else { a with off := a.off + n, spot := none }).block = a.block := by split <;> rfl
    rw [hb] at hh
    refine ⟨(Array.getElem?_eq_some_iff.1 hh).1, fun h0 => ?_⟩
    subst h0
    simp only [if_true] at h
    split at h
    . cases h
    . rename_i hs; simpa using hs
  . cases h
theorem G2 {ts : List TypeId} {e : TypeId} (h : ts.any (Nat.beq e) = true) : e ∈ ts := by
  obtain ⟨x, hx, h2⟩ := List.any_eq_true.1 h
  rw [Nat.eq_of_beq_eq_true h2]; exact hx
theorem In {G : Nat -> Nat -> Prop} {b : Nat} : ∀ {ds : List DV} {cs : List Value} {o : Nat}, (∀ (i : Nat) (v : Value), cs[i]? = some v -> w.cell? ⟨b, o + i, none⟩ = some v) -> (∀ (i : Nat) (d : DV) (v : Value), ds[i]? = some d -> cs[i]? = some v -> Ef G w d v) -> ds.length = cs.length -> Bn G w ds b o
  | [], _, _, _, _, _ => by simp [Bn]
  | d :: ds, v :: cs, o, h1, h2, hl => by
    simp only [Bn]
    refine ⟨⟨v, by simpa using h1 0 v rfl, h2 0 d v rfl rfl⟩, In (cs := cs) (fun i v hv => ?_) (fun i d v hd hv => h2 (i + 1) d v hd hv) (by simpa using hl)⟩
    have := h1 (i + 1) v hv
    rwa [show o + (i + 1) = o + 1 + i by omega] at this
  | _ :: _, [], _, _, _, hl => by simp at hl
theorem Lc {G : Nat -> Nat -> Prop} {k b : Nat} : ∀ {l : List (List DV)} {o : Nat}, (∀ (i : Nat) (e : List DV), l[i]? = some e -> e.length = k /\ Bn G w e b (o + i * k)) -> Dd G w k l b o
  | [], _, _ => by simp [Dd]
  | e :: l, o, h => by
    simp only [Dd]
    obtain ⟨h1, h2⟩ := h 0 e rfl
    refine ⟨h1, by simpa using h2, Lc fun i e he => ?_⟩
    have := h (i + 1) e he
    rw [Nat.succ_mul] at this
    exact ⟨this.1, by rw [show o + k + i * k = o + (i * k + k) by omega]; exact this.2⟩
theorem Cz {α β : Type} {R : Nat -> α -> β -> Prop} : ∀ (l : List α) (n : Nat), (∀ (i : Nat) (a : α), l[i]? = some a -> ∃ b, R (n + i) a b) -> ∃ bs : List β, bs.length = l.length /\ ∀ (i : Nat) (a : α) (b : β), l[i]? = some a -> bs[i]? = some b -> R (n + i) a b
  | [], _, _ => ⟨[], rfl, fun i a b h => by simp at h⟩
  | a :: l, n, h => by
    obtain ⟨b, hb⟩ := h 0 a rfl
    obtain ⟨bs, h1, h2⟩ := Cz (R := R) l (n + 1) fun i a ha => by
      have := h (i + 1) a ha
      rwa [show n + (i + 1) = n + 1 + i by omega] at this
    refine ⟨b :: bs, by simp [h1], fun i a' b' ha hb' => ?_⟩
    cases i with
    | zero => simp at ha hb'; subst ha; subst hb'; exact hb
    | succ i =>
      have := h2 i a' b' (by simpa using ha) (by simpa using hb')
      rwa [show n + 1 + i = n + (i + 1) by omega] at this
set_option maxHeartbeats 1000000 in
theorem Rw {H : Type} {enc : TypeId × Value -> H} {base : Nat} {spare : Nat -> Bool} {held : Bool} {ts : List TypeId} (hcl : Jj P ts = true) (hK : ∀ b hi, b < w.heap.size -> K.good w b hi) :
    ∀ (fuel : Nat) (t : TypeId) (cs : List Value) (x : DataW H × List MemPlace), t ∈ ts -> DataW.trod enc P w base spare held fuel t cs = some x -> ∃ ds, Bm K w (ds.map .d) cs /\ Shp P fuel t ds := by
  intro fuel
  induction fuel with
  | zero => intro t cs x _ h; simp [DataW.trod] at h
  | succ n ih =>
    intro t cs x ht h
    have hg := List.all_eq_true.1 hcl t ht
    unfold Ri at hg
    split at hg
    . rename_i hu
      obtain ⟨b, rfl, _⟩ := DataW.trod_bool hu h
      exact ⟨[.v (.bool b)], ⟨_, _, rfl, ⟨rfl, rfl⟩, rfl⟩, by unfold Shp; rw [hu]; exact ⟨b, rfl⟩⟩
    . rename_i k hu
      obtain ⟨z, rfl, _, hw⟩ := DataW.trod_int hu h
      exact ⟨[.v (.int k z)], ⟨_, _, rfl, ⟨rfl, rfl⟩, rfl⟩, by unfold Shp; rw [hu]; exact ⟨z, rfl, hw⟩⟩
    . rename_i hu
      obtain ⟨s, rfl, _, hs⟩ := DataW.trod_string hu h
      exact ⟨[.v (.string s)], ⟨_, _, rfl, ⟨rfl, rfl⟩, rfl⟩, by unfold Shp; rw [hu]; exact ⟨s, rfl, by simpa [maxLen] using hs⟩⟩
    . rename_i e hu
      simp only [Bool.and_eq_true, Nat.blt_eq] at hg
      have he := G2 hg.1
      rcases DataW.trod_slice hu h with ⟨rfl, _⟩ | ⟨a, len, cap, elems, rest, m, hm, rfl, _, hb, h1, h2, h3, h4, _⟩
      . refine ⟨[.sl (P.cellsOf e) []], ⟨_, _, rfl, ?_, rfl⟩, by unfold Shp; rw [hu]; exact ⟨[], rfl, by simp, by simp⟩⟩
        simp only [Rep, Ef]
        exact ⟨none, 0, rfl, Nat.le_refl _, by omega, fun hne => absurd rfl hne⟩
      . obtain rfl : n = m := by omega
        have hel : ∀ (i : Nat) (y : DataW H × List MemPlace), elems[i]? = some y -> ∃ ds : List DV, (∃ cs, w.cells? base (a.add (i * P.cellsOf e)) (P.cellsOf e) = some cs /\ Bm K w (ds.map .d) cs) /\ Shp P n e ds := fun i y hy => by
          have hi : i < len := by rw [<- h3]; exact (List.getElem?_eq_some_iff.1 hy).1
          have h5 := h4 i hi
          rw [hy] at h5
          obtain ⟨cs, h6, h7⟩ := Option.bind_eq_some_iff.1 h5
          obtain ⟨ds, h8, h9⟩ := ih e cs y he h7
          exact ⟨ds, ⟨cs, h6, h8⟩, h9⟩
        obtain ⟨l, hl, hR⟩ := Cz (R := fun i _ ds => (∃ cs, w.cells? base (a.add (i * P.cellsOf e)) (P.cellsOf e) = some cs /\ Bm K w (List.map PV.d ds) cs) /\ Shp P n e ds) elems 0 (fun i y hy => by rw [Nat.zero_add]; exact hel i y hy)
        simp only [Nat.zero_add] at hR
        have hcells : ∀ (i : Nat) (cs : List Value), w.cells? base (a.add (i * P.cellsOf e)) (P.cellsOf e) = some cs -> cs.length = P.cellsOf e /\ ∀ (j : Nat) (v : Value), cs[j]? = some v -> w.cell? ((a.add (i * P.cellsOf e)).add j) = some v := fun i cs hc => by
          unfold World.cells? at hc
          split at hc
          . refine ⟨by have := mapM_some_length hc; simpa using this, fun j v hj => ?_⟩
            have hj' : j < P.cellsOf e := by have := mapM_some_length hc; simp at this; rw [<- this]; exact (List.getElem?_eq_some_iff.1 hj).1
            have := mapM_some_get hc j j (by simp [hj'])
            rw [this]; exact hj
          . cases hc
        have hshape : ∀ x ∈ l, Shp P n e x := fun x hx => by
          obtain ⟨i, hi⟩ := List.mem_iff_getElem?.1 hx
          have hlt := (List.getElem?_eq_some_iff.1 hi).1
          exact (hR i elems[i] x (List.getElem?_eq_getElem (by omega)) hi).2
        have hlen : l.length = len := by omega
        refine ⟨[.sl (P.cellsOf e) l], ⟨_, _, rfl, ?_, rfl⟩, by unfold Shp; rw [hu]; exact ⟨l, rfl, by rw [hlen]; have : maxLen = 9223372036854775807 := rfl; omega, hshape⟩⟩
        simp only [Rep, Ef]
        refine ⟨some a, cap, by rw [hlen], by omega, by have : maxLen = 9223372036854775807 := rfl; omega, fun hne => ?_⟩
        have h0 : 0 < l.length := List.length_pos_iff.2 hne
        obtain ⟨⟨cs0, hc0, _⟩, _⟩ := hR 0 elems[0] l[0] (List.getElem?_eq_getElem (by omega)) (List.getElem?_eq_getElem h0)
        obtain ⟨hl0, hg0⟩ := hcells 0 cs0 hc0
        rw [Nat.zero_mul] at hg0
        have ha0 := Nk (n := 0) (a := a) (v := cs0[0]'(by omega)) (by have := hg0 0 cs0[0] (List.getElem?_eq_getElem (by omega)); simpa [Addr.add] using this)
        have hsp := ha0.2 rfl
        obtain ⟨b, o, sp⟩ := a
        simp only at hsp
        subst hsp
        refine ⟨b, o, rfl, hK b _ ha0.1, Lc fun i d hd => ?_⟩
        have hlt := (List.getElem?_eq_some_iff.1 hd).1
        obtain ⟨⟨cs, hc, hr⟩, _⟩ := hR i elems[i] d (List.getElem?_eq_getElem (by omega)) hd
        obtain ⟨hcl', hcg⟩ := hcells i cs hc
        have hdl : d.length = cs.length := by have := hr.length; simpa using this.symm
        refine ⟨by omega, In (cs := cs) (fun j v hj => ?_) (fun j dd v hdj hvj => ?_) hdl⟩
        . have := hcg j v hj
          have e1 : ((⟨b, o, none⟩ : Addr).add (i * P.cellsOf e)).add j = ⟨b, o + i * P.cellsOf e + j, none⟩ := by
            unfold Addr.add
            split <;> split <;> simp_all
          rwa [e1] at this
        . obtain ⟨u, hu', hru⟩ := hr.get (i := j) (p := .d dd) (by rw [List.getElem?_map, hdj]; rfl)
          rw [hvj] at hu'; cases hu'
          exact hru
    . rename_i fs hu
      simp only [Bool.and_eq_true] at hg
      obtain ⟨xs, m, hm, _, hcl', hxl, hx⟩ := DataW.trod_struct hu h
      obtain rfl : n = m := by omega
      obtain ⟨parts, hpl, hR⟩ := Cz (R := fun i (f : Field) (ds : List DV) => Bm K w (List.map PV.d ds) ((cs.drop f.offset).take (P.cellsOf f.type)) /\ Shp P n f.type ds) fs.toList 0 (fun i f hf => by
        have hf' : fs[i]? = some f := by rw [<- Array.getElem?_toList]; exact hf
        have hlt : i < xs.length := by rw [hxl]; exact (Array.getElem?_eq_some_iff.1 hf').1
        have := hx i f hf'
        rw [List.getElem?_eq_getElem hlt] at this
        exact ih f.type _ _ (G2 (List.all_eq_true.1 hg.1 f (List.mem_of_getElem? hf))) this)
      refine ⟨parts.flatten, ?_, by unfold Shp; rw [hu]; exact ⟨parts, rfl, by rw [hpl]; simp, fun i f p hf hp => (hR i f p (by rw [Array.getElem?_toList]; exact hf) hp).2⟩⟩
      have e := Fp hg.2 hcl'
      rw [List.drop_zero] at e
      rw [<- e]
      refine Fw (by rw [List.length_map, hpl]) fun i p c hp hc => ?_
      rw [List.getElem?_map] at hc
      obtain ⟨f, hf, rfl⟩ := Option.map_eq_some_iff.1 hc
      exact (hR i f p hf hp).1
    . rename_i mm e hu
      simp only [Bool.and_eq_true] at hg
      have he := G2 hg.1
      obtain ⟨xs, m, hm, _, hcl', hxl, hx⟩ := DataW.trod_array hu h
      obtain rfl : n = m := by omega
      obtain ⟨parts, hpl, hR⟩ := Cz (R := fun i (_ : Nat) (ds : List DV) => Bm K w (List.map PV.d ds) ((cs.drop (i * P.cellsOf e)).take (P.cellsOf e)) /\ Shp P n e ds) (List.range mm) 0 (fun i j hj => by
        have hlt : i < mm := by have := (List.getElem?_eq_some_iff.1 hj).1; simpa using this
        have := hx i hlt
        rw [List.getElem?_eq_getElem (by omega)] at this
        rw [Nat.zero_add]
        exact ih e _ _ he this)
      simp only [Nat.zero_add] at hR
      refine ⟨parts.flatten, ?_, by
        unfold Shp; rw [hu]
        refine ⟨parts, rfl, by rw [hpl]; simp, fun p hp => ?_⟩
        obtain ⟨i, hi⟩ := List.mem_iff_getElem?.1 hp
        have hlt := (List.getElem?_eq_some_iff.1 hi).1
        exact (hR i _ p (List.getElem?_eq_getElem (by omega)) hi).2⟩
      have e2 := Ip (P.cellsOf e) mm (cs := cs) (by rw [hcl', Nat.eq_of_beq_eq_true hg.2])
      rw [<- e2]
      refine Fw (by rw [List.length_map, hpl]) fun i p c hp hc => ?_
      rw [List.getElem?_map] at hc
      obtain ⟨j, hj, rfl⟩ := Option.map_eq_some_iff.1 hc
      have : j = i := by
        have h1 := List.getElem?_eq_some_iff.1 hj
        obtain ⟨h2, h3⟩ := h1
        simpa using h3.symm
      subst this
      exact (hR j j p hj hp).1
    . cases hg
end
end Go.Proofs.YtiledamgmppcmaaGreatDoor
namespace Go.Proofs.YtiledamgmppcmaaGreatDoor
open Go.RowKit
section
variable {P : Program} {o : Oper} {F : Nat -> PV} {S : PS}
theorem J6 {t : TypeId} {len : Nat} {ps : Array (Nat × Operand)} {I : TyI} {out : List PV} {ds : List DV} (ho : o.op = .buildSlice t len ps) (hI : TyI.of P t = some I) (hk : I.kind = 2) (hlen : len * I.ek <= 16777216)
    (ha : (E9 F ps).all (fun x => Ee x.2.parts) = true) (hf : Qc (fun i => some (i * I.ek, I.ek)) (P4 I.ez (len * I.ek)) (E9 F ps) = some out) (hd : S.toDs out = some ds) (hl63 : len <= 9223372036854775807) : OpS P o F S (.hd S.toks.length 0) (S.addTok ⟨0, I.ek, Q8 I.ek len ds, I.elem⟩) :=
  OpS.val fun K w ρ hInv h => by
    obtain ⟨cs, hrun, hr, hcs, hds⟩ := Kf (P := P) (F := F) (ρ := ρ) hInv hI hk hlen (by simpa [ho, Op.operands] using h) ha hf hd
    obtain ⟨hc1, hc2, hc3⟩ := O5 hds
    obtain ⟨h1, h2, h3⟩ := hInv.addTok (w' := w.alloc (.cells cs I.elem)) ((Below.refl _ _).alloc (Nat.le_refl _) _) (T := ⟨0, I.ek, Q8 I.ek len ds, I.elem⟩) (blk := some (w.heap.size, len * I.ek)) (u := .slice (some ⟨w.heap.size, 0, none⟩) len len) rfl rfl (fun g lo hg => by cases hg; exact Nat.le_refl _) (fun hs => by
      refine .inr ⟨w.heap.size, len, cs, by simp [hc2], by simp [hc2], heap_alloc_new w _, by simp [hc2], hl63, hcs, ?_, Fx.2 ⟨hc3, ?_⟩⟩
      . obtain ⟨g1, g2, g3, g4, g5⟩ := Rh (w' := w.alloc (.cells cs I.elem)) hInv (by simp) (len * I.ek)
        refine ⟨g1, g2, g3, fun lo hm => absurd (hInv.Tlt _ lo hm) (Nat.lt_irrefl _), fun t' c' lo ht hc => ?_⟩
        change (K.τ ++ [_])[t']? = _ at ht
        simp only [hc2]
        by_cases e : t' < K.τ.length
        . rw [List.getElem?_append_left e] at ht
          exact absurd (hInv.tokLt ht hc) (Nat.lt_irrefl _)
        . have e2 : t' = K.τ.length := by have := (List.getElem?_eq_some_iff.1 ht).1; simp at this; omega
          subst e2
          rw [List.getElem?_append_right (Nat.le_refl _)] at ht
          simp at ht
          subst ht
          cases hc; exact Nat.le_refl _
      . rw [hc1]
        exact Io On (Bm.step hs _ _ hr))
    exact ⟨_, _, _, by simp only [execOp, ho, Sem.run_bind, hrun]; rfl, h2, h1, h3⟩
end
end Go.Proofs.YtiledamgmppcmaaGreatDoor
namespace Go.Proofs.YtiledamgmppcmaaGreatDoor
open Go.RowKit
section
variable {N : Nat} {ops : Array Oper} {rest : List Oper} {o : Oper} {F : Nat -> PV} {S S' : PS} {q : WRes -> Prop} {C : Prop} {r : PV} {Q : Exit -> (Nat -> PV) -> PS -> Prop}
variable {ch : Nat -> Bool} {U Ut : List Nat} {k : Nat} {bm : Bool} {D : List Nat}
variable {c : Operand} {al : Array Operand} {ats : Array TypeId} {f : Nat} {caps args : List PV}
theorem wcba {id : Nat} {c0 c1 : List PV} (hD : An f args ⟨[c0], []⟩ (.ret r) ⟨[c1], []⟩) (hg : Am ops F o = some true) (hcc : ch k = true) (ho : o.op = .call { callee := .value c, args := al, argTypes := ats }) (hc : evP F c = .fn f caps) (hbox : S.boxes[id]? = some c0) (hl0 : PV.ltL 0 0 c0 = true) (hl1 : PV.ltL 0 0 c1 = true) (hlr : r.lt 0 0 = true)
    (hlt : PV.ltL 1 0 args = true) (ha : F6 S (al.toList.map (evP F) ++ caps) (PV.renL (fbN [id]) (ftN [] S.toks.length) args)) (hS : S.setBox id c1 = S') (hA : Agree U Ut S S') (kk : WA Tryz.prog N ops ch U Ut (k + 1) rest (Ch N o.dst r F) S' false D q) : WA Tryz.prog N ops ch U Ut k (o :: rest) F S false D q := by
  subst hS; exact Qw hg hcc (K3 hD ho hc hbox hl0 hl1 hlr hlt ha) hA kk
end
section
variable {N : Nat} {ops : Array Oper} {rest : List Oper} {o : Oper} {F : Nat -> PV} {S S' S'' : PS} {q : WRes -> Prop} {C : Prop} {r r' : PV} {Q : Exit -> (Nat -> PV) -> PS -> Prop} {ch : Nat -> Bool} {U Ut : List Nat} {k : Nat} {bm : Bool} {D : List Nat}
theorem q10 (kk : WA Tryz.prog N ops ch U Ut (k + 1) rest (Ch N o.dst r F) S bm D q) (hg : Am ops F o = some true := by exact rfl) (hc : ch k = false := by exact rfl) (h : ∀ S', Agree U Ut S S' -> Le tyi Bq F S' o.op = some (C, r, S') := by exact fun _ _ => rfl) (hC : C := by first | exact True.intro | (simp only [IntKind.lo, IntKind.hi]; omega) | omega | decide) : WA Tryz.prog N ops ch U Ut k (o :: rest) F S bm D q := waf hg hc h hC kk
theorem q12 (kk : WA Tryz.prog N ops ch U Ut (k + 1) rest (Ch N o.dst r' F) S bm D q) (hg : Am ops F o = some true := by exact rfl) (hc : ch k = false := by exact rfl) (h : ∀ S', Agree U Ut S S' -> Hz tyi Bq F S' o.op = some (C, r, S') := by exact fun _ _ => rfl) (hr : r = r' := by first | (apply Ck rfl; repeat (first | exact Bp rfl | apply Gx rfl | apply Gy rfl | apply Gz rfl)) | exact Lk rfl | (dsimp only [List.length_cons, List.length_nil, List.length_append, Nat.reduceAdd]; rfl) | rfl) (hC : C := by first | exact True.intro | (simp only [IntKind.lo, IntKind.hi]; omega) | omega | decide) : WA Tryz.prog N ops ch U Ut k (o :: rest) F S bm D q := wafB hg hc h hr hC kk
end
theorem rs2 {G X Y : Prop} (h1 : X) (h2 : Y) (t : Hx X -> Hx Y -> G := by (intro h1 h2; first | exact q17 h1.out h2.out | exact q18 h1.out h2.out | exact q16 h1.out h2.out | fail)) : G := t ⟨h1⟩ ⟨h2⟩
theorem rl3 {G X : Prop} (h : X) (t : Hx X -> G := by (intro h; (first | refine q1 ?_ | refine q2 ?_ | refine Ca ?_ | refine Gw ?_ | refine C5 ?_ | refine Bx ?_ | refine Iw ?_ | refine Jq ?_ | refine Iv ?_ | refine q3 ?_ | refine q4 ?_ | refine q5 ?_ | refine q6 ?_ | refine q7s ?_ | refine q8 ?_ | refine q10 ?_ | refine q11 ?_ | refine q12 ?_ | refine q13 ?_ | refine q14s ?_ | refine q15 ?_ | fail); (repeat' (first | refine q1 ?_ | refine q2 ?_ | refine Ca ?_ | refine Gw ?_ | refine C5 ?_ | refine Bx ?_ | refine Iw ?_ | refine Jq ?_ | refine Iv ?_ | refine q3 ?_ | refine q4 ?_ | refine q5 ?_ | refine q6 ?_ | refine q7s ?_ | refine q8 ?_ | refine q10 ?_ | refine q11 ?_ | refine q12 ?_ | refine q13 ?_ | refine q14s ?_ | refine q15 ?_ | fail)); exact h.out)) : G := t ⟨h⟩
end Go.Proofs.YtiledamgmppcmaaGreatDoor
namespace Go.Proofs.YtiledamgmppcmaaGreatDoor
open Go.RowKit Go.ChangeShapes Go.ChangeAt Go.WideShapes
theorem Rj {W : World} : ∀ b hi, b < W.heap.size -> Kz.good W b hi := fun b hi h => ⟨h, by simp [Kz], by simp [Kz], by simp [Kz], by simp [Kz]⟩
section
variable {P : Program} {W : World} {H : Type} {enc : TypeId × Value -> H} {base : Nat} {spare : Nat -> Bool} {held : Bool} {r : Reach} {b0 : Nat} {ts : List TypeId} {t : TypeId} {v : Value} {d : DataW H} {p : List MemPlace}
theorem Rv {k : IntKind} (hu : P.underlying t = some (.int k)) (hv : Value.okWide P W r b0 t v) (h : DataW.Trod enc P W base spare held t v d p) : ∃ z, Rep Kz W (.d (.v (.int k z))) v /\ (Lit.int k z).wf = true := by
  obtain ⟨z, rfl, _, _, hw⟩ := open_int hu hv h
  exact ⟨z, ⟨rfl, rfl⟩, hw⟩
theorem La {e : TypeId} (hcl : Jj P ts = true) (ht : ts.any (Nat.beq t) = true) (hu : P.underlying t = some (.slice e)) (hv : Value.okWide P W r b0 t v) (h : DataW.Trod enc P W base spare held t v d p) : ∃ n l, Rep Kz W (.d (.sl (P.cellsOf e) l)) v /\ ∀ x ∈ l, Shp P n e x := by
  obtain ⟨a, len, cap, rfl⟩ := okWide_slice hu hv
  obtain ⟨fuel, hf⟩ := h
  obtain ⟨ds, h1, h2⟩ := Rw (K := Kz) hcl Rj fuel t _ _ (G2 ht) hf
  cases fuel with
  | zero => exact h2.elim
  | succ n =>
    unfold Shp at h2
    rw [hu] at h2
    obtain ⟨l, rfl, _, h3⟩ := h2
    obtain ⟨u, us, h4, h5, h6⟩ := h1
    simp [Value.cells] at h4
    exact ⟨n, l, by rw [h4.1]; exact h5, h3⟩
variable {n : Nat} {ds : List DV}
theorem Ix {k : IntKind} (hu : P.underlying t = some (.int k)) (h : Shp P n t ds) : ∃ z, ds = [.v (.int k z)] /\ (Lit.int k z).wf = true := by
  cases n with
  | zero => exact h.elim
  | succ n => unfold Shp at h; rw [hu] at h; exact h
theorem Zh (hu : P.underlying t = some .string) (h : Shp P n t ds) : ∃ s : ByteArray, ds = [.v (.string s)] /\ s.size <= 9223372036854775807 := by
  cases n with
  | zero => exact h.elim
  | succ n => unfold Shp at h; rw [hu] at h; exact h
theorem Zg {e : TypeId} (hu : P.underlying t = some (.slice e)) (h : Shp P n t ds) : ∃ m l, n = m + 1 /\ ds = [.sl (P.cellsOf e) l] /\ ∀ x ∈ l, Shp P m e x := by
  cases n with
  | zero => exact h.elim
  | succ n => unfold Shp at h; rw [hu] at h; obtain ⟨l, h1, _, h2⟩ := h; exact ⟨n, l, rfl, h1, h2⟩
theorem Py {fs : Array Field} (hu : P.underlying t = some (.struct fs)) (h : Shp P n t ds) : ∃ m parts, n = m + 1 /\ ds = List.flatten parts /\ parts.length = fs.size /\ ∀ (i : Nat) (f : Field) (p : List DV), fs[i]? = some f -> parts[i]? = some p -> Shp P m f.type p := by
  cases n with
  | zero => exact h.elim
  | succ n => unfold Shp at h; rw [hu] at h; obtain ⟨l, h1, h2, h3⟩ := h; exact ⟨n, l, rfl, h1, h2, h3⟩
theorem J2 {α : Type} {R : α -> Prop} (f : α -> List DV) : ∀ {l : List (List DV)}, (∀ x ∈ l, ∃ a, x = f a /\ R a) -> ∃ zs : List α, l = zs.map f /\ ∀ a ∈ zs, R a
  | [], _ => ⟨[], rfl, fun _ h => by cases h⟩
  | x :: l, h => by
    obtain ⟨a, rfl, ha⟩ := h x List.mem_cons_self
    obtain ⟨zs, rfl, has⟩ := J2 f (l := l) fun y hy => h y (List.mem_cons_of_mem _ hy)
    refine ⟨a :: zs, rfl, fun b hb => ?_⟩
    rcases List.mem_cons.1 hb with rfl | hb
    . exact ha
    . exact has b hb
end
theorem parts3 {parts : List (List DV)} (h : parts.length = 3) : ∃ a b c, parts = [a, b, c] := by
  match parts, h with
  | [a, b, c], _ => exact ⟨a, b, c, rfl⟩
theorem An0 {parts : List (List DV)} (h : parts.length = 4) : ∃ a b c d, parts = [a, b, c, d] := by
  match parts, h with
  | [a, b, c, d], _ => exact ⟨a, b, c, d, rfl⟩
end Go.Proofs.YtiledamgmppcmaaGreatDoor
namespace Go.Proofs.YtiledamgmppcmaaGreatDoor
open Go.RowKit
theorem U5 (x : Ex) : An 63 [exP x] ⟨[], []⟩ (.ret (Ai (Ak x.op))) ⟨[], []⟩ := by
  refine Af Tryz.func63 rfl rfl (Nat.le_of_ble_eq_true rfl) rfl (Nat.le_refl _) ?_
  repeat' (first | refine rl0 ?_ | refine rs0 (fun h => ?_) (fun h => ?_) | fail)
  all_goals simp only [decide_eq_true_eq, decide_eq_false_iff_not] at *
  all_goals congr 4
  all_goals unfold Ak
  all_goals (repeat' split)
  all_goals omega
theorem Qp (op : Int) : An 64 [Ai op] ⟨[], []⟩ (.ret (By (C3 op))) ⟨[], []⟩ := by
  refine Af Tryz.func64 rfl rfl (Nat.le_of_ble_eq_true rfl) rfl (Nat.le_refl _) ?_
  repeat' (first | refine rl0 ?_ | refine rs0 (fun h => ?_) (fun h => ?_) | fail)
  all_goals simp only [decide_eq_true_eq, decide_eq_false_iff_not] at *
  all_goals congr 3
  all_goals simp_all [C3]
end Go.Proofs.YtiledamgmppcmaaGreatDoor
namespace Go.Proofs.YtiledamgmppcmaaGreatDoor
open Go.RowKit
theorem Cg (c : UInt8) (w : World) : Calls Tryz.prog 104 #[.int .u8 (c.toNat : Int)] w fun e w' => e = .returned (.bool (B7 c)) /\ w = w' := by
  by_cases h1 : 97 <= (c.toNat : Int)
  . go_enter Tryz.func104, Tryz.ntmps104
    go_wp2
    go_ret
    exact ⟨Au (by simp [B7, h1]), rfl⟩
  . go_enter Tryz.func104, Tryz.ntmps104
    go_wp2
    go_ret
    exact ⟨Au (by rw [Ht (by omega)]), rfl⟩
theorem Es (c : UInt8) (w : World) : Calls Tryz.prog 106 #[.int .u8 (c.toNat : Int)] w fun e w' => e = .returned (.bool (Bi c)) /\ w = w' := by
  by_cases h1 : 48 <= (c.toNat : Int)
  . go_enter Tryz.func106, Tryz.ntmps106
    go_wp2
    go_ret
    exact ⟨Au (by simp [Bi, h1]), rfl⟩
  . go_enter Tryz.func106, Tryz.ntmps106
    go_wp2
    go_ret
    exact ⟨Au (by rw [M6 (by omega)]), rfl⟩
theorem Jv (c : UInt8) (w : World) : Calls Tryz.prog 103 #[.int .u8 (c.toNat : Int)] w fun e w' => e = .returned (.bool (B9 c)) /\ w = w' := by
  have HP : Hid (B9 c = (B7 c || Bi c || Ov c)) := Lib.hid rfl
  have HU : Hid (Ov c = ((c.toNat : Int) == 95)) := Lib.hid (by rw [Bool.eq_iff_iff]; simp [Ov]; omega)
  cases h1 : B7 c <;> cases h2 : Bi c
  all_goals
    go_enter Tryz.func103, Tryz.ntmps103
    go_wp2_with (first | (go_at_call 104; refine (Cg _ _).mono ?_; rintro e w' ⟨rfl, rfl⟩) | (go_at_call 106; refine (Es _ _).mono ?_; rintro e w' ⟨rfl, rfl⟩))
    go_ret
    exact ⟨Au (by rw [HP.out, HU.out, h1, h2]; simp), rfl⟩
theorem Gv (b n c : Nat) (zs : List ByteArray) (x : ByteArray) (w : World) (hz : zs.length = n) (hbig : n <= 1000000)
    (hc : ∀ j, j < n -> w.cell? ⟨b, j, none⟩ = some (.string (zs.getD j ByteArray.empty))) :
    Calls Tryz.prog 105 #[.slice (some ⟨b, 0, none⟩) n c, .string x] w fun e w' => e = .returned (.bool (Q0 zs x)) /\ w = w' := by
  have HZ := Lib.hid hz
  have hz' : n <= zs.length := by omega
  clear hz
  go_enter Tryz.func105, Tryz.ntmps105
  go_wp2
  go_loop [5] (fun i => ∃ k : Nat, k <= n /\ i = .int .i64 k /\ Q0 (zs.take k) x = false) (fun i => n - (intOf i).toNat)
  case atStart => exact ⟨0, Nat.zero_le _, rfl, by simp [Q0]⟩
  case round =>
    obtain ⟨k, hk, rfl, hm⟩ := hrel
    have hcell : k < n -> w.cell? ⟨b, k, none⟩ = some (.string (zs.getD k ByteArray.empty)) := fun h => hc k h
    have HM := Lib.hid hm
    clear hm hc
    go_wp2
    . rename_i hlt _ _ heq _
      go_ret
      exact ⟨Au (Xx zs x k (by omega) (by simpa using (beq_iff_eq.1 heq).symm)).symm, rfl⟩
    . rename_i hlt hne
      refine ⟨⟨k + 1, by omega, by simp, ?_⟩, by simp [intOf]; omega⟩
      exact U9 zs x k (by omega) HM.out (fun h => absurd h.symm (by simpa using hne))
    . rename_i hge _
      go_ret
      refine ⟨Au ?_, rfl⟩
      have hk : k = zs.length := by have := HZ.out; omega
      have h := HM.out
      rw [hk, List.take_length] at h
      exact h.symm
end Go.Proofs.YtiledamgmppcmaaGreatDoor
namespace Go.Proofs.YtiledamgmppcmaaGreatDoor
open Go.RowKit
theorem Dj (w : World) :
    Calls Tryz.prog 58 #[] w fun e w' => e = .returned (.slice (some ⟨w.heap.size, 0, none⟩) 23 23) /\ w.alloc (.cells Cm 9) = w' := by
  go_enter Tryz.func58, Tryz.ntmps58
  go_wp2
  go_ret
  exact ⟨rfl, rfl⟩
theorem Gi (w : World) :
    Calls Tryz.prog 59 #[] w fun e w' => e = .returned (.slice (some ⟨w.heap.size, 0, none⟩) 21 21) /\ w.alloc (.cells Cq 9) = w' := by
  go_enter Tryz.func59, Tryz.ntmps59
  go_wp2
  go_ret
  exact ⟨rfl, rfl⟩
set_option maxHeartbeats 1000000 in
theorem Nw (s : ByteArray) (w : World) (hs : s.size <= 9223372036854775807) :
    Calls Tryz.prog 142 #[.string s] w fun e w' => e = .returned (.bool (Ei s.data.toList)) /\ Below w.heap.size w w' := by
  have hlen : s.data.toList.length = s.size := by simp
  have HL := Lib.hid hlen
  clear hlen
  by_cases h1 : s.size < 1
  . have HF : Hid (Ei s.data.toList = false) := Lib.hid (by
      have hz : s.toList = [] := Ce (by omega)
      rw [Ea, <- Df, hz]; rfl)
    go_enter Tryz.func142, Tryz.ntmps142
    go_wp2
    go_ret
    exact ⟨Au HF.out.symm, Below.refl _ _⟩
  . have hp : 0 < s.size := by omega
    have HH := Lib.hid (Tx hp)
    by_cases h2 : 12 < s.size
    . have HF : Hid (Ei s.data.toList = false) := Lib.hid (by
        rw [Ea, decide_eq_false (by rw [HL.out]; omega)]; simp)
      go_enter Tryz.func142, Tryz.ntmps142
      go_wp2
      go_ret
      exact ⟨Au HF.out.symm, Below.refl _ _⟩
    . cases h3 : B7 s[0]
      . have HF : Hid (Ei s.data.toList = false) := Lib.hid (by
          rw [Ea, HH.out]; simp [h3])
        go_enter Tryz.func142, Tryz.ntmps142
        go_wp2_with (go_at_call 104; refine (Cg _ _).mono ?_; rintro e w' ⟨rfl, rfl⟩)
        go_ret
        exact ⟨Au HF.out.symm, Below.refl _ _⟩
      . cases h4 : Q0 Cc s
        . have HG : Hid (Ei s.data.toList = s.data.toList.all B9) := Lib.hid (by
            rw [Ea, HH.out, <- Cx, h4]; simp [h3]; intro _; omega)
          go_enter Tryz.func142, Tryz.ntmps142
          go_wp2_with (first | (go_at_call 104; refine (Cg _ _).mono ?_; rintro e w' ⟨rfl, rfl⟩) | (go_at_call 58; refine (Dj _).mono ?_; rintro e w' ⟨rfl, rfl⟩) | (go_at_call 105; refine (Gv _ 23 _ Cc _ _ rfl (by omega) (F3 _)).mono ?_; rintro e w' ⟨rfl, rfl⟩))
          go_loop [3] (fun i => ∃ k : Nat, k <= s.size /\ i = .int .i64 k /\ (s.data.toList.take k).all B9 = true) (fun i => s.size - (intOf i).toNat)
          case atStart => exact ⟨0, by omega, rfl, by simp⟩
          case round =>
            obtain ⟨k, hk, rfl, hm⟩ := hrel
            have HM := Lib.hid hm
            clear hm h3 h4
            by_cases hlt : k < s.size
            . have hl : k < s.data.toList.length := by simpa using hlt
              cases h5 : B9 s[k]
              . have HF : Hid (s.data.toList.all B9 = false) := Lib.hid (Il hl h5)
                go_wp2_with (go_at_call 103; refine (Jv _ _).mono ?_; rintro e w' ⟨rfl, rfl⟩)
                go_ret
                exact ⟨Au (by rw [HG.out, HF.out]), (Below.refl _ _).alloc (Nat.le_refl _) _⟩
              . have HP : Hid (B9 s.data.toList[k] = true) := Lib.hid h5
                go_wp2_with (go_at_call 103; refine (Jv _ _).mono ?_; rintro e w' ⟨rfl, rfl⟩)
                go_round
                case rel => exact ⟨k + 1, by omega, by go_num, Mq hl HM.out HP.out⟩
                case measure => simp [intOf]; omega
            . have HA : Hid (s.data.toList.all B9 = true) := Lib.hid (Qt (by simp; omega) HM.out)
              go_wp2
              go_ret
              exact ⟨Au (by rw [HG.out, HA.out]), (Below.refl _ _).alloc (Nat.le_refl _) _⟩
        . have HF : Hid (Ei s.data.toList = false) := Lib.hid (by
            rw [Ea, <- Cx, h4]; simp)
          go_enter Tryz.func142, Tryz.ntmps142
          go_wp2_with (first | (go_at_call 104; refine (Cg _ _).mono ?_; rintro e w' ⟨rfl, rfl⟩) | (go_at_call 58; refine (Dj _).mono ?_; rintro e w' ⟨rfl, rfl⟩) | (go_at_call 105; refine (Gv _ 23 _ Cc _ _ rfl (by omega) (F3 _)).mono ?_; rintro e w' ⟨rfl, rfl⟩))
          go_ret
          exact ⟨Au HF.out.symm, (Below.refl _ _).alloc (Nat.le_refl _) _⟩
theorem Gq (l : List UInt8) : Bl l = (l.all Bi && (l == [48] || (!l.isEmpty && l.head? != some 48 && decide (l.length <= 4)))) := rfl
set_option maxHeartbeats 1000000 in
theorem T5 (s : ByteArray) (w : World) (hs : s.size <= 9223372036854775807) :
    Calls Tryz.prog 146 #[.string s] w fun e w' => e = .returned (.bool (Bl s.data.toList)) /\ w = w' := by
  have hlen : s.data.toList.length = s.size := by simp
  have HL := Lib.hid hlen
  clear hlen
  by_cases h1 : s.size < 1
  . have HF : Hid (Bl s.data.toList = false) := Lib.hid (by
      have hz : s.toList = [] := Ce (by omega)
      rw [Gq, <- Df, hz]; rfl)
    go_enter Tryz.func146, Tryz.ntmps146
    go_wp2
    go_ret
    exact ⟨Au HF.out.symm, rfl⟩
  . have hp : 0 < s.size := by omega
    have HH := Lib.hid (Tx hp)
    have HE : Hid (s.data.toList.isEmpty = false) := Lib.hid (by rw [<- Df]; exact Do hp)
    by_cases h2 : 4 < s.size
    . have HF : Hid (Bl s.data.toList = false) := Lib.hid (by
        have h48 : (s.data.toList == [48]) = false := by
          rw [beq_eq_false_iff_ne]; intro h
          have := HL.out
          rw [h] at this; simp at this; omega
        rw [Gq, decide_eq_false (by rw [HL.out]; omega), h48]; simp)
      go_enter Tryz.func146, Tryz.ntmps146
      go_wp2
      go_ret
      exact ⟨Au HF.out.symm, rfl⟩
    . by_cases h3 : 1 < s.size /\ s[0] = 48
      . obtain ⟨h3, h4⟩ := h3
        have h5 : ((s[0].toNat : Int) == 48) = true := by rw [h4]; rfl
        have HF : Hid (Bl s.data.toList = false) := Lib.hid (by
          have h48 : (s.data.toList == [48]) = false := by
            rw [beq_eq_false_iff_ne]; intro h
            have := HL.out
            rw [h] at this; simp at this; omega
          rw [Gq, HH.out, h4, h48]; simp)
        clear h4
        go_enter Tryz.func146, Tryz.ntmps146
        go_wp2
        go_ret
        exact ⟨Au HF.out.symm, rfl⟩
      . have HG : Hid (Bl s.data.toList = s.data.toList.all Bi) := Lib.hid (by
          have : (s.data.toList == [48] || (!s.data.toList.isEmpty && s.data.toList.head? != some 48 && decide (s.data.toList.length <= 4))) = true := by
            rw [HE.out, HH.out, HL.out, decide_eq_true (by omega : s.size <= 4)]
            by_cases h4 : s[0] = 48
            . have h6 : s.size = 1 := by
                rcases Nat.lt_or_ge 1 s.size with h | h
                . exact absurd ⟨h, h4⟩ h3
                . omega
              have h7 : s.data.toList = [48] := by
                have hh := HH.out
                rw [h4] at hh
                cases e : s.data.toList with
                | nil => rw [e] at hh; simp at hh
                | cons a t =>
                  rw [e] at hh
                  have hl := HL.out
                  rw [e, h6] at hl
                  simp at hh hl
                  rw [hh, hl]
              rw [h7]; rfl
            . simp [h4]
          rw [Gq, this]; simp)
        by_cases h6 : 1 < s.size
        case' pos =>
          have h7 : ((s[0].toNat : Int) == 48) = false := by
            rw [beq_eq_false_iff_ne]; intro h; exact h3 ⟨h6, UInt8.toNat_inj.1 (by simpa using Int.ofNat.inj h)⟩
        all_goals
          clear h3
          go_enter Tryz.func146, Tryz.ntmps146
          go_wp2
          go_loop [3] (fun i => ∃ k : Nat, k <= s.size /\ i = .int .i64 k /\ (s.data.toList.take k).all Bi = true) (fun i => s.size - (intOf i).toNat)
          case atStart => exact ⟨0, by omega, rfl, by simp⟩
          case round =>
            obtain ⟨k, hk, rfl, hm⟩ := hrel
            have HM := Lib.hid hm
            clear hm
            by_cases hlt : k < s.size
            . have hl : k < s.data.toList.length := by simpa using hlt
              cases h5 : Bi s[k]
              . have HF : Hid (s.data.toList.all Bi = false) := Lib.hid (Il hl h5)
                go_wp2_with (go_at_call 106; refine (Es _ _).mono ?_; rintro e w' ⟨rfl, rfl⟩)
                go_ret
                exact ⟨Au (by rw [HG.out, HF.out]), rfl⟩
              . have HP : Hid (Bi s.data.toList[k] = true) := Lib.hid h5
                go_wp2_with (go_at_call 106; refine (Es _ _).mono ?_; rintro e w' ⟨rfl, rfl⟩)
                go_round
                case rel => exact ⟨k + 1, by omega, by go_num, Mq hl HM.out HP.out⟩
                case measure => simp [intOf]; omega
            . have HA : Hid (s.data.toList.all Bi = true) := Lib.hid (Qt (by simp; omega) HM.out)
              go_wp2
              go_ret
              exact ⟨Au (by rw [HG.out, HA.out]), rfl⟩
end Go.Proofs.YtiledamgmppcmaaGreatDoor
namespace Go.Proofs.YtiledamgmppcmaaGreatDoor
open Go.RowKit
set_option maxHeartbeats 1000000 in
theorem I8 (kind : Int) (s : ByteArray) (w : World) (hs : s.size <= 9223372036854775807) :
    Calls Tryz.prog 107 #[.int .i64 kind, .string s] w fun e w' => e = .returned (.bool (Ay kind s.data.toList)) /\ Below w.heap.size w w' := by
  by_cases h1 : kind = 1
  . subst h1
    go_enter Tryz.func107, Tryz.ntmps107
    go_wp2_with (go_at_call 142; refine (Nw _ _ hs).mono ?_; rintro e w1 ⟨rfl, hb1⟩)
    go_ret
    exact ⟨Au rfl, hb1⟩
  . by_cases h2 : kind = 2
    . subst h2
      go_enter Tryz.func107, Tryz.ntmps107
      go_wp2_with (first | (go_at_call 58; refine (Dj _).mono ?_; rintro e w' ⟨rfl, rfl⟩) | (go_at_call 105; refine (Gv _ 23 _ Cc _ _ rfl (by omega) (F3 _)).mono ?_; rintro e w' ⟨rfl, rfl⟩))
      go_ret
      exact ⟨Au (by rw [Ep, Cx]; rfl), (Below.refl _ _).alloc (Nat.le_refl _) _⟩
    . by_cases h3 : kind = 3
      . subst h3
        go_enter Tryz.func107, Tryz.ntmps107
        go_wp2_with (go_at_call 146; refine (T5 _ _ hs).mono ?_; rintro e w' ⟨rfl, rfl⟩)
        go_ret
        exact ⟨Au rfl, Below.refl _ _⟩
      . by_cases h4 : kind = 4
        . subst h4
          go_enter Tryz.func107, Tryz.ntmps107
          go_wp2_with (first | (go_at_call 59; refine (Gi _).mono ?_; rintro e w' ⟨rfl, rfl⟩) | (go_at_call 105; refine (Gv _ 21 _ Dc _ _ rfl (by omega) (Qq _)).mono ?_; rintro e w' ⟨rfl, rfl⟩))
          go_ret
          exact ⟨Au (by rw [Ep, Em]; rfl), (Below.refl _ _).alloc (Nat.le_refl _) _⟩
        . have HF : Hid (Ay kind s.data.toList = false) := Lib.hid (by rw [Ep, if_neg h1, if_neg h2, if_neg h3, if_neg h4])
          go_enter Tryz.func107, Tryz.ntmps107
          go_wp2
          go_ret
          exact ⟨Au HF.out.symm, Below.refl _ _⟩
set_option maxHeartbeats 1000000 in
theorem We (kind : Int) (s : ByteArray) (a : Int) (w : World) (hs : s.size <= 9223372036854775807) :
    Calls Tryz.prog 72 #[.agg #[.int .i64 kind, .string s, .int .i64 a]] w fun e w' => e = .returned (.int .i64 (B5 kind s.data.toList a)) /\ Below w.heap.size w w' := by
  by_cases h1 : a < 0
  . have HF : Hid (B5 kind s.data.toList a = 340) := Lib.hid (if_pos (.inl h1))
    go_enter Tryz.func72, Tryz.ntmps72
    go_wp2
    go_ret
    exact ⟨Jl HF.out.symm, (Below.refl _ _).alloc (Nat.le_refl _) _⟩
  . by_cases h2 : 20000 <= a
    . have HF : Hid (B5 kind s.data.toList a = 340) := Lib.hid (if_pos (.inr (.inl h2)))
      go_enter Tryz.func72, Tryz.ntmps72
      go_wp2
      go_ret
      exact ⟨Jl HF.out.symm, (Below.refl _ _).alloc (Nat.le_refl _) _⟩
    . cases h3 : Ay kind s.data.toList
      . have HF : Hid (B5 kind s.data.toList a = 340) := Lib.hid (if_pos (.inr (.inr h3)))
        go_enter Tryz.func72, Tryz.ntmps72
        go_wp2_with (go_at_call 107; refine (I8 _ _ _ hs).mono ?_; rintro e w1 ⟨rfl, hb1⟩)
        go_ret
        exact ⟨Jl HF.out.symm, ((Below.refl _ _).alloc (Nat.le_refl _) _).trans (hb1.mono (by simp))⟩
      . have HF : Hid (B5 kind s.data.toList a = 0) := Lib.hid (if_neg (by rw [h3]; simp; omega))
        go_enter Tryz.func72, Tryz.ntmps72
        go_wp2_with (go_at_call 107; refine (I8 _ _ _ hs).mono ?_; rintro e w1 ⟨rfl, hb1⟩)
        go_ret
        exact ⟨Jl HF.out.symm, ((Below.refl _ _).alloc (Nat.le_refl _) _).trans (hb1.mono (by simp))⟩
end Go.Proofs.YtiledamgmppcmaaGreatDoor
namespace Go.Proofs.YtiledamgmppcmaaGreatDoor
open Go.RowKit
theorem Abq {a b : UInt8} (h : a ≠ b) : ((a.toNat : Int) != (b.toNat : Int)) = true := by rw [bne, Nh h]; rfl
theorem Pz {l : List UInt8} {k : Nat} (h : k < l.length) (hc : l[k] ≠ 10) : Bb true (l.drop k) = Bb true (l.drop (k + 1)) := by
  rw [H4 h]; simp [Bb, hc]
theorem T8 {l : List UInt8} {k : Nat} (h : k < l.length) (hc : l[k] = 35) : Bb true (l.drop k) = Bb false (l.drop k) := by
  rw [Oo h hc]; exact Pz h (by rw [hc]; decide)
theorem Acz {l : List UInt8} {k : Nat} (h : k < l.length) (hc : l[k] = 10) : Bb false (l.drop k) = Bb true (l.drop k) := by
  rw [H4 h]; simp [Bb, hc]
theorem Zl {l : List UInt8} {k : Nat} (h : l.length <= k) : Bb false (l.drop k) = Bb true (l.drop k) := by
  rw [List.drop_eq_nil_of_le h]; rfl
set_option maxRecDepth 100000 in
set_option maxHeartbeats 4000000 in
theorem R1 (s : ByteArray) (k : Nat) (w : World) (hs : s.size <= 1000000) (hk : k <= s.size) :
    Calls Tryz.prog 61 #[.string s, .int .i64 k] w fun e w' => e = .returned (.int .i64 (M3 s.data.toList k)) /\ w = w' := by
  go_enter Tryz.func61, Tryz.ntmps61
  go_wp2
  go_loop [1] (fun i => ∃ k' : Nat, k <= k' /\ k' <= s.size /\ i = .int .i64 k' /\ Bb false (s.data.toList.drop k') = Bb false (s.data.toList.drop k)) (fun i => s.size - (intOf i).toNat)
  case atStart => exact ⟨k, Nat.le_refl _, hk, rfl, rfl⟩
  case round =>
    obtain ⟨k', hk1, hk2, rfl, hsk⟩ := hrel
    have HK := Lib.hid hsk
    clear hsk
    by_cases hlt : k' < s.size
    . have hl : k' < s.data.toList.length := by simpa using hlt
      by_cases h32 : s[k'] = 32
      . have f1 : ((s[k'].toNat : Int) == 32) = true := by rw [h32]; rfl
        have f2 : ((s[k'].toNat : Int) != 35) = true := by rw [h32]; rfl
        have HN : Hid (Bb false (s.data.toList.drop (k' + 1)) = Bb false (s.data.toList.drop k)) := Lib.hid ((Nd hl (.inl h32)).symm.trans HK.out)
        clear h32
        go_wp2
        go_round
        case rel => exact ⟨k' + 1, by omega, by omega, by go_num, HN.out⟩
        case measure => simp [intOf]; omega
      . have f1 : ((s[k'].toNat : Int) == 32) = false := Nh h32
        by_cases h10 : s[k'] = 10
        . have f2 : ((s[k'].toNat : Int) == 10) = true := by rw [h10]; rfl
          have f3 : ((s[k'].toNat : Int) != 35) = true := by rw [h10]; rfl
          have HN : Hid (Bb false (s.data.toList.drop (k' + 1)) = Bb false (s.data.toList.drop k)) := Lib.hid ((Nd hl (.inr h10)).symm.trans HK.out)
          clear h32 h10
          go_wp2
          go_round
          case rel => exact ⟨k' + 1, by omega, by omega, by go_num, HN.out⟩
          case measure => simp [intOf]; omega
        . have f2 : ((s[k'].toNat : Int) == 10) = false := Nh h10
          by_cases h35 : s[k'] = 35
          . have f3 : ((s[k'].toNat : Int) == 35) = true := by rw [h35]; rfl
            have f4 : ((s[k'].toNat : Int) != 35) = false := by rw [h35]; rfl
            have HC := Lib.hid h35
            clear h32 h10 h35
            go_wp2
            go_loop [1] (fun i => ∃ e : Nat, k' <= e /\ e <= s.size /\ i = .int .i64 e /\ Bb true (s.data.toList.drop e) = Bb false (s.data.toList.drop k)) (fun i => s.size - (intOf i).toNat)
            case atStart => exact ⟨k', Nat.le_refl _, by omega, rfl, (T8 hl HC.out).trans HK.out⟩
            case round =>
              obtain ⟨e, he1, he2, rfl, hE⟩ := hrel
              have HE := Lib.hid hE
              clear hE
              by_cases hle : e < s.size
              . have hle' : e < s.data.toList.length := by simpa using hle
                by_cases hn : s[e] = 10
                . have g1 : ((s[e].toNat : Int) != 10) = false := by rw [hn]; rfl
                  have hgt : k' < e := by
                    rcases Nat.lt_or_ge k' e with h | h
                    . exact h
                    . obtain rfl : e = k' := by omega
                      have h2 := HC.out
                      rw [hn] at h2
                      exact absurd h2 (by decide)
                  have HN : Hid (Bb false (s.data.toList.drop e) = Bb false (s.data.toList.drop k)) := Lib.hid ((Acz hle' hn).trans HE.out)
                  clear hn
                  go_wp2
                  go_round
                  case rel => exact ⟨e, by omega, by omega, rfl, HN.out⟩
                  case measure => simp [intOf]; omega
                . have g1 : ((s[e].toNat : Int) != 10) = true := Abq hn
                  have HN : Hid (Bb true (s.data.toList.drop (e + 1)) = Bb false (s.data.toList.drop k)) := Lib.hid ((Pz hle' hn).symm.trans HE.out)
                  clear hn
                  go_wp2
                  go_round
                  case rel => exact ⟨e + 1, by omega, by omega, by go_num, HN.out⟩
                  case measure => simp [intOf]; omega
              . have HN : Hid (Bb false (s.data.toList.drop e) = Bb false (s.data.toList.drop k)) := Lib.hid ((Zl (by simp; omega)).trans HE.out)
                go_wp2
                go_round
                case rel => exact ⟨e, by omega, by omega, rfl, HN.out⟩
                case measure => simp [intOf]; omega
          . have f3 : ((s[k'].toNat : Int) == 35) = false := Nh h35
            have HN : Hid (M3 s.data.toList k = k') := Lib.hid (Td HK.out (Wr hl h32 h10 h35) (by omega))
            clear h32 h10 h35
            go_wp2
            go_ret
            exact ⟨Jl (by rw [HN.out]), rfl⟩
    . have HN : Hid (M3 s.data.toList k = k') := Lib.hid (Td HK.out (Ac0 (by simp; omega)) (by simp; omega))
      go_wp2
      go_ret
      exact ⟨Jl (by rw [HN.out]), rfl⟩
end Go.Proofs.YtiledamgmppcmaaGreatDoor
namespace Go.Proofs.YtiledamgmppcmaaGreatDoor
open Go.RowKit
section
variable {P : Program} {ops : Array Oper} {md : Region.Mode} {C : World -> Prop}
def N6 (P : Program) (md : Region.Mode) (ops : Array Oper) (C : World -> Prop) (n : Nat) (L : Array Bool -> Act -> Prop) : Nat -> Array Bool -> Act -> Prop
  | 0, listed, a => L listed a
  | f + 1, listed, a =>
    Region.ready md ops listed ≠ [] /\ ∀ i ∈ Region.ready md ops listed, i < n /\ qOp P ops C i (N6 P md ops C n L f (listed.setIfInBounds i true)) a
theorem Ju {n g : Nat} {L : Array Bool -> Act -> Prop} {Q' : Exit -> Act -> World -> Prop} (hL : ∀ listed a w, C w -> L listed a -> wpAny P md ops Q' g listed a w) :
    ∀ (f : Nat) (listed : Array Bool) (a : Act) (w : World), C w -> N6 P md ops C n L f listed a -> wpAny P md ops Q' (f + g) listed a w
  | 0, listed, a, w, hw, h => by rw [Nat.zero_add]; exact hL _ _ _ hw h
  | f + 1, listed, a, w, hw, h => by
    rw [show f + 1 + g = (f + g) + 1 by omega]
    exact ⟨fun h0 => absurd h0 h.1, fun i hi => wpOp_of_qOp hw (fun a' w' hw' h' => Ju hL f _ a' w' hw' h') (h.2 i hi).2⟩
theorem Qy {n i : Nat} {oi : Oper} {v : Value} {L : Array Bool -> Act -> Prop} (hi : ops[i]? = some oi) (hsel : ∀ (j : Nat) (o : Oper) cs b, ops[j]? = some o -> o.op ≠ .select cs b)
    (hs : Region.sinkB md ops n = true) (hc : Region.chainB md ops n = true) (hn : n < ops.size) (hin : i < n)
    (hdone : ∀ listed a, L listed a -> ∀ j ∈ Region.ready md ops listed, n <= j) :
    ∀ (f : Nat) (listed : Array Bool) (a : Act), HeadInv md ops n listed ->
      (∀ j oj, ops[j]? = some oj -> j ≠ i -> listed.getD j true = false -> (∀ e ∈ oj.after, Region.binds md e = true -> e.on ≠ i) -> oi.apart ops oj = true) ->
      i ∈ Region.ready md ops listed -> YieldsIn P ops C oi v a ->
      N6 P md ops C n L f (listed.setIfInBounds i true) (a.put oi.dst v) -> N6 P md ops C n L (f + 1) listed a := by
  intro f
  induction f with
  | zero =>
    intro listed a inv _ hr hy H
    have hun := (mem_ready.1 hr).1
    refine ⟨fun h => (by rw [h] at hr; cases hr), fun j hj => ?_⟩
    have hjn : j < n := by
      rcases Nat.lt_or_ge j n with h | h
      . exact h
      . exact absurd hj (tail_waits hs hc hn inv _ i rfl hin hun j h)
    refine ⟨hjn, ?_⟩
    by_cases hji : j = i
    . subst hji; exact hy.qOp hi H
    . have := hdone _ _ H j (ready_mono hj hji)
      omega
  | succ f ih =>
    intro listed a inv hfree hr hy H
    have hun := (mem_ready.1 hr).1
    refine ⟨fun h => (by rw [h] at hr; cases hr), fun j hj => ?_⟩
    have hjn : j < n := by
      rcases Nat.lt_or_ge j n with h | h
      . exact h
      . exact absurd hj (tail_waits hs hc hn inv _ i rfl hin hun j h)
    refine ⟨hjn, ?_⟩
    by_cases hji : j = i
    . subst hji; exact hy.qOp hi H
    . have h1 := (H.2 j (ready_mono hj hji)).2
      obtain ⟨hjun, oj, hoj, hall⟩ := mem_ready.1 hj
      have hnot : ∀ e ∈ oj.after, Region.binds md e = true -> e.on ≠ i := fun e he hb heq => by
        have h1 := hall e he hb
        rw [heq, getD_both hun] at h1
        cases h1
      have h2 := qOp_put hoj (hfree j oj hoj hji hjun hnot) (fun cs b => hsel i oi cs b hi) (fun cs b => hsel j oj cs b hoj) hy h1
      have hfree' : ∀ k ok, ops[k]? = some ok -> k ≠ i -> (listed.setIfInBounds j true).getD k true = false ->
          (∀ e ∈ ok.after, Region.binds md e = true -> e.on ≠ i) -> oi.apart ops ok = true := fun k ok hk hki hun hno => by
        refine hfree k ok hk hki ?_ hno
        by_cases hjk : j = k
        . subst hjk; exact hjun
        . rw [getD_set_ne true hjk] at hun; exact hun
      refine qOp_mono (fun a' h3 => ih (listed.setIfInBounds j true) a' (inv.set hj hjn) hfree' (ready_mono hr (Ne.symm hji)) h3.1 ?_) h2
      rw [Array.setIfInBounds_comm _ _ hji]
      exact h3.2
theorem N7 {n g : Nat} {Lq : Act -> Prop} (hsel : Region.noSelect ops = true) (hs : Region.sinkB md ops n = true) (hc : Region.chainB md ops n = true) (hn : n < ops.size) :
    ∀ (l : List Oper) (k : Nat) (listed : Array Bool) (a : Act), (∀ j, j < l.length -> l[j]? = ops[k + j]?) -> k + l.length = n -> HeadInv md ops n listed ->
    Region.lexHead md ops g l.length k listed = true -> wpQuiet P ops C Lq l a ->
    N6 P md ops C n (fun listed' a' => Region.seqB md ops g n listed' = true /\ Lq a') l.length listed a
  | [], k, listed, a, _, hk, _, hB, h => by
    have : k = n := by simpa using hk
    subst this
    exact ⟨by simpa [Region.lexHead] using hB, h⟩
  | o :: l, k, listed, a, hl, hk, inv, hB, h => by
    have h0 : ops[k]? = some o := by simpa using (hl 0 (by simp)).symm
    simp only [List.length_cons, Region.lexHead, Bool.and_eq_true] at hB
    obtain ⟨⟨hr, hf⟩, hB'⟩ := hB
    have hkn : k < n := by simp only [List.length_cons] at hk; omega
    have hr' : k ∈ Region.ready md ops listed := by simpa using hr
    have hst : qOp P ops C k (wpQuiet P ops C Lq l) a := by unfold qOp; simp only [h0]; exact h
    obtain ⟨v, hy, hK⟩ := yieldsIn_of_qOp h0 hst
    exact Qy h0 (Region.noSelect_spec hsel) hs hc hn hkn (fun listed' a' hL => seqB_ready hL.1) l.length listed a inv (Region.free_spec h0 hf) hr' hy
      (N7 hsel hs hc hn l (k + 1) _ _ (fun j hj => by have := hl (j + 1) (by simp; omega); simpa [Nat.add_assoc, Nat.add_comm 1 j] using this) (by simp only [List.length_cons] at hk; omega) (inv.set hr' hkn) hB' hK)
theorem Jo {id : Nat} {Q : Exit -> Act -> World -> Prop} {a : Act} {w : World} {l : List Oper} (n : Nat) (hm : P.follows .mixedOrders = true) (hB : Region.lexTailB .any l.toArray n = true) (hC : C { w with drawn := w.drawn + 1 })
    (h : wpQuiet P l.toArray C (fun a' => ∀ w', C w' -> wpList P l.toArray Q (l.drop n) a' w') (l.take n) a) : (Code.region id l.toArray true).wp P Q a w := by
  simp only [Region.lexTailB, Bool.and_eq_true, decide_eq_true_eq] at hB
  obtain ⟨⟨⟨⟨hsel, hn⟩, hs⟩, hc⟩, hlex⟩ := hB
  have hn' : n < l.length := by simpa using hn
  have htl : (l.take n).length = n := by simp; omega
  have hdl : (l.drop n).length = l.toArray.size - n := by simp
  have inv0 : HeadInv .any l.toArray n (Array.replicate l.toArray.size false) :=
    ⟨by simp, fun j oj _ hl => (by rw [getD_replicate_false] at hl; cases hl), fun t _ ht => getD_in (by simpa using ht) (getD_replicate_false _ _)⟩
  have H := N7 (C := C) (md := .any) (g := l.toArray.size - n) hsel hs hc hn (l.take n) 0 _ a (fun j hj => by
    have hj' : j < n := by rw [htl] at hj; exact hj
    simp [hj']) (by simpa using htl) inv0 (by rw [htl]; exact hlex) h
  refine wp_region_any hm ?_
  have := Ju (Q' := Q) (g := l.toArray.size - n) (fun listed a' w' hw' hL => by
    have := wpAny_of_seq (md := .any) (Q' := Q) (l.drop n) n listed a' w' (fun j => by simp [List.getElem?_drop]) (by rw [hdl]; exact hL.1) (hL.2 w' hw')
    rwa [hdl] at this) _ _ _ _ hC H
  rw [htl, show n + (l.toArray.size - n) = l.toArray.size by omega] at this
  exact this
theorem Fb {id : Nat} {Q : Exit -> Act -> World -> Prop} {a : Act} {w : World} {l : List Oper} (n : Nat) (hm : P.follows .mixedOrders = true) (hB : Region.lexTailB .any l.toArray n = true)
    (h : wpQuiet P l.toArray (fun w' => ∃ x : Later w, w' = x.world) (fun a' => ∀ w', Below w.heap.size w w' -> wpList P l.toArray Q (l.drop n) a' w') (l.take n) a) : (Code.region id l.toArray true).wp P Q a w := by
  refine Jo (C := fun w' => ∃ x : Later w, w' = x.world) n hm hB ⟨⟨_, Oz w⟩, rfl⟩ ?_
  have e : (fun a' => ∀ w', (∃ x : Later w, w' = x.world) -> wpList P l.toArray Q (l.drop n) a' w') = (fun a' => ∀ w', Below w.heap.size w w' -> wpList P l.toArray Q (l.drop n) a' w') := by
    funext a'
    exact propext ⟨fun h w' hb => h w' ⟨⟨w', hb⟩, rfl⟩, fun h w' ⟨x, hx⟩ => by rw [hx]; exact h _ x.below⟩
  rw [e]
  exact h
end
end Go.Proofs.YtiledamgmppcmaaGreatDoor
namespace Go.Proofs.YtiledamgmppcmaaGreatDoor
open Go.RowKit
def Kd (s : ByteArray) (k : Nat) (w : World) (e : Ending) (w' : World) : Prop :=
  e = .returned (.tuple #[.agg #[.int .i64 (Dk (s.data.toList.drop k)).1, .string (Aq (Dk (s.data.toList.drop k)).2), .int .i64 k], .bool (Ay (Dk (s.data.toList.drop k)).1 (Dk (s.data.toList.drop k)).2)]) /\ Below w.heap.size w w'
def Adu (s : ByteArray) (k : Nat) (w w' : World) : Prop :=
  ∃ tx : ByteArray, Cw w' (w.heap.size + 1) (Dk (s.data.toList.drop k)).1 tx k /\ tx.data.toList = (Dk (s.data.toList.drop k)).2 /\ Cw w' w.heap.size 0 ⟨#[]⟩ 0 /\ Below w.heap.size w w'
theorem Hs {s : ByteArray} {k : Nat} : (s.extract k (k + 1)).data.toList = (s.data.toList.drop k).take 1 := by
  rw [Cj, show k + 1 - k = 1 from by omega]
theorem Gp {s : ByteArray} {k : Nat} : (s.extract k (k + 2)).data.toList = (s.data.toList.drop k).take 2 := by
  rw [Cj, show k + 2 - k = 2 from by omega]
theorem Zu {s : ByteArray} {k : Nat} (h : ¬ k + 2 <= s.size) : (s.data.toList.drop k).take 2 = (s.data.toList.drop k).take 1 := by
  rw [List.take_of_length_le (by simp; omega), List.take_of_length_le (by simp; omega)]
set_option maxRecDepth 100000 in
set_option maxHeartbeats 4000000 in
theorem Acs (s : ByteArray) (k : Nat) (w : World) (hs : s.size <= 1000000) (hk : k < s.size) :
    Calls Tryz.prog 62 #[.string s, .int .i64 k] w (Kd s k w) := by
  go_enter Tryz.func62, Tryz.ntmps62
  go_wp2
  go_loop [6] (fun i => ∃ e : Nat, k <= e /\ e <= s.size /\ i = .int .i64 e /\ ((s.data.toList.drop k).take (e - k)).all B9 = true) (fun i => s.size - (intOf i).toNat)
  case atStart => exact ⟨k, Nat.le_refl _, by omega, rfl, by simp⟩
  case round =>
    obtain ⟨e, he1, he2, rfl, hall⟩ := hrel
    have HA := Lib.hid hall
    clear hall
    by_cases hmore : ∃ h : e < s.size, B9 s[e] = true
    . obtain ⟨hlt, hp⟩ := hmore
      have HP := Lib.hid hp
      go_wp2_with (go_at_call 103; refine (Jv _ _).mono ?_; rintro e' w1 ⟨rfl, rfl⟩)
      go_round
      case rel =>
        refine ⟨e + 1, by omega, by omega, by go_num, ?_⟩
        rw [show e + 1 - k = (e - k) + 1 from by omega]
        exact Mq (by simp; omega) HA.out (by rw [V7 hlt he1]; exact HP.out)
      case measure => simp [intOf]; omega
    . have HW : Hid ((s.data.toList.drop k).takeWhile B9 = (s.data.toList.drop k).take (e - k)) := Lib.hid (Sb (by simp; omega) HA.out (fun h' => by
        have hlt : e < s.size := by simp at h'; omega
        have : B9 s[e] = false := by
          cases hp : B9 s[e]
          . rfl
          . exact absurd ⟨hlt, hp⟩ hmore
        rw [V7 hlt he1]; exact this))
      by_cases hlt : e < s.size
      . have hp : B9 s[e] = false := by
          cases hp : B9 s[e]
          . rfl
          . exact absurd ⟨hlt, hp⟩ hmore
        clear hmore
        go_wp2_with fail
        refine (Jv _ _).mono ?_
        rintro e' w1 ⟨rfl, rfl⟩
        go_upto_block 2 with (fail)
        have hne : ¬ w.heap.size = w.heap.size + 1 := by omega
        go_cut [] (fun w' => Adu s k w w')
        case first =>
          refine E1 (F := fun w' => Cw w' (w.heap.size + 1) 0 ⟨#[]⟩ k /\ Cw w' w.heap.size 0 ⟨#[]⟩ 0 /\ Below w.heap.size w w') ⟨A2 (by simp), At (A2 rfl), ((Below.refl _ _).alloc (Nat.le_refl _) _).alloc (by simp) _⟩ ?_
          rintro w2 ⟨hT2, hZ2, hB2⟩
          have HT2 := Lib.hid hT2
          have HZ2 := Lib.hid hZ2
          have HB2 := Lib.hid hB2
          have d20 := hT2.cells
          have d21 := hT2.free
          have d22 := B8 hT2
          clear hT2 hZ2 hB2
          cases hlet : B7 s[k]
          . cases hdig : Bi s[k]
            . have HS : Hid (Dk (s.data.toList.drop k) = (4, if Oi Bz ((s.data.toList.drop k).take 2) then (s.data.toList.drop k).take 2 else (s.data.toList.drop k).take 1)) := Lib.hid (Pm hk hlet hdig)
              go_wp2_with (first | (go_at_call 104; refine (Cg _ _).mono ?_; rintro e' w' ⟨rfl, rfl⟩) | (go_at_call 106; refine (Es _ _).mono ?_; rintro e' w' ⟨rfl, rfl⟩))
              have g1 : (0 : Int) <= (k : Int) + 1 := by omega
              have g2 : (k : Int) + 1 <= s.size := by omega
              have g3 : ((k : Int) + 1).toNat = k + 1 := by omega
              have g4 : IntKind.i64.wrap ((k : Int) + 1) = (k : Int) + 1 := IntWalk.i64_in _ (by omega)
              go_region
              go_wp2_with fail
              clear g1 g2 g3 g4
              refine E1 (F := fun w' => Cw w' (w.heap.size + 1) (4) (s.extract k (k + 1)) k /\ Cw w' w.heap.size 0 ⟨#[]⟩ 0 /\ Below w.heap.size w w') ⟨(HT2.out.set0 4).set1 _, (HZ2.out.far hne _ _).far hne _ _, ((HB2.out.setCell (p := ⟨w.heap.size + 1, 0, none⟩) (Nat.le_succ _) _).setCell (p := ⟨w.heap.size + 1, 1, none⟩) (Nat.le_succ _) _).drew⟩ ?_
              rintro w3 ⟨hT3, hZ3, hB3⟩
              clear d20 d21 d22 HT2 HZ2 HB2
              have HT3 := Lib.hid hT3
              have HZ3 := Lib.hid hZ3
              have HB3 := Lib.hid hB3
              have d30 := hT3.cells
              have d31 := hT3.free
              have d32 := B8 hT3
              clear hT3 hZ3 hB3
              have d31' := d31.2.1
              by_cases h2 : k + 2 <= s.size
              . have g1 : decide ((k : Int) + 2 <= s.size) = true := by simp; omega
                have g5 : (0 : Int) <= (k : Int) + 2 := by omega
                have g6 : (k : Int) <= (k : Int) + 2 := by omega
                have g7 : (0 : Int) <= (k : Int) := by omega
                have g8 : ((k : Int)).toNat = k := by omega
                have g2 : (k : Int) + 2 <= s.size := by omega
                have g3 : ((k : Int) + 2).toNat = k + 2 := by omega
                have g4 : IntKind.i64.wrap ((k : Int) + 2) = (k : Int) + 2 := IntWalk.i64_in _ (by omega)
                have HB4 := Lib.hid (((Below.refl w3.heap.size w3).alloc (Nat.le_refl _) (.cells Cq 9)).drew)
                have HT5 := Lib.hid (HT3.out.set1 (s.extract k (k + 2)))
                have HZ5 := Lib.hid (HZ3.out.far hne 1 (.string (s.extract k (k + 2))))
                have HB5 := Lib.hid (HB3.out.setCell (p := ⟨w.heap.size + 1, 1, none⟩) (Nat.le_succ _) (.string (s.extract k (k + 2))))
                have HB6 := Lib.hid (((Below.refl (w3.setCell ⟨w.heap.size + 1, 1, none⟩ (.string (s.extract k (k + 2)))).heap.size (w3.setCell ⟨w.heap.size + 1, 1, none⟩ (.string (s.extract k (k + 2))))).alloc (Nat.le_refl _) (.cells Cq 9)).drew)
                cases hm : Q0 Dc (s.extract k (k + 2))
                . have HO : Hid (Dk (s.data.toList.drop k) = (4, (s.extract k (k + 1)).data.toList)) := Lib.hid (by
                    rw [HS.out, <- Gp, <- Em, hm, Hs]; rfl)
                  clear hlet hdig
                  go_region_held3 (fun _ => True) (trivial) (first | (go_at_call 59; refine (Gi _).mono ?_; rintro e w' ⟨rfl, rfl⟩) | (go_at_call 105; refine (Gv _ 21 _ Dc _ _ rfl (by omega) (Du _)).mono ?_; rintro e w' ⟨rfl, rfl⟩))
                  all_goals clear g1 g2 g3 g4 g5 g6 g7 g8
                  all_goals go_wp2_with fail
                  all_goals go_meet
                  all_goals exact ⟨s.extract k (k + 1), by rw [HO.out]; exact HT3.out.below HB4.out, by rw [HO.out], HZ3.out.below HB4.out, HB3.out.trans (HB4.out.mono HB3.out.size)⟩
                . have HO : Hid (Dk (s.data.toList.drop k) = (4, (s.extract k (k + 2)).data.toList)) := Lib.hid (by
                    rw [HS.out, <- Gp, <- Em, hm]; rfl)
                  clear hlet hdig
                  go_region_held3 (fun _ => True) (trivial) (first | (go_at_call 59; refine (Gi _).mono ?_; rintro e w' ⟨rfl, rfl⟩) | (go_at_call 105; refine (Gv _ 21 _ Dc _ _ rfl (by omega) (Du _)).mono ?_; rintro e w' ⟨rfl, rfl⟩))
                  all_goals go_wp2_with fail
                  all_goals go_meet
                  all_goals exact ⟨s.extract k (k + 2), by rw [HO.out]; exact HT5.out.below HB6.out, by rw [HO.out], HZ5.out.below HB6.out, HB5.out.trans (HB6.out.mono HB5.out.size)⟩
              . have g1 : decide ((k : Int) + 2 <= s.size) = false := by simp; omega
                have g4 : IntKind.i64.wrap ((k : Int) + 2) = (k : Int) + 2 := IntWalk.i64_in _ (by omega)
                have HO : Hid (Dk (s.data.toList.drop k) = (4, (s.extract k (k + 1)).data.toList)) := Lib.hid (by
                    rw [HS.out, Zu h2, <- Hs]; simp)
                refine Al (by kernel_rfl) (by kernel_rfl) ?_
                repeat (go_big_quiet_step (fail))
                refine wpQuiet_nil ?_
                intro w4 hb4
                clear g1 g4
                go_wp2_with fail
                go_meet
                case rel => exact ⟨s.extract k (k + 1), by rw [HO.out]; exact HT3.out.below hb4, by rw [HO.out], HZ3.out.below hb4, HB3.out.trans (hb4.mono HB3.out.size)⟩
            . have HO : Hid (Dk (s.data.toList.drop k) = (3, (s.extract k e).data.toList)) := Lib.hid (by rw [M9 hk hlet hdig, Cj, <- HW.out])
              go_wp2_with (first | (go_at_call 104; refine (Cg _ _).mono ?_; rintro e' w' ⟨rfl, rfl⟩) | (go_at_call 106; refine (Es _ _).mono ?_; rintro e' w' ⟨rfl, rfl⟩))
              go_region
              go_wp2_with fail
              go_meet
              case rel =>
                exact ⟨s.extract k e, by rw [HO.out]; exact (HT2.out.set0 3).set1 _, by rw [HO.out], (HZ2.out.far hne _ _).far hne _ _, ((HB2.out.setCell (p := ⟨w.heap.size + 1, 0, none⟩) (Nat.le_succ _) _).setCell (p := ⟨w.heap.size + 1, 1, none⟩) (Nat.le_succ _) _).drew⟩
          . go_wp2_with (go_at_call 104; refine (Cg _ _).mono ?_; rintro e' w' ⟨rfl, rfl⟩)
            go_region
            go_wp2_with fail
            refine E1 (F := fun w' => Cw w' (w.heap.size + 1) (1) (s.extract k e) k /\ Cw w' w.heap.size 0 ⟨#[]⟩ 0 /\ Below w.heap.size w w') ⟨(HT2.out.set0 1).set1 _, (HZ2.out.far hne _ _).far hne _ _, ((HB2.out.setCell (p := ⟨w.heap.size + 1, 0, none⟩) (Nat.le_succ _) _).setCell (p := ⟨w.heap.size + 1, 1, none⟩) (Nat.le_succ _) _).drew⟩ ?_
            rintro w3 ⟨hT3, hZ3, hB3⟩
            clear d20 d21 d22 HT2 HZ2 HB2
            have HT3 := Lib.hid hT3
            have HZ3 := Lib.hid hZ3
            have HB3 := Lib.hid hB3
            have d30 := hT3.cells
            have d31 := hT3.free
            have d32 := B8 hT3
            clear hT3 hZ3 hB3
            have HX : Hid ((s.extract k e).data.toList = (s.data.toList.drop k).takeWhile B9) := Lib.hid (by rw [HW.out, Cj])
            have hb4 : Below w3.heap.size w3 (w3.alloc (.cells Cm 9)).drew := ((Below.refl _ _).alloc (Nat.le_refl _) _).drew
            have HB4 := Lib.hid hb4
            clear hb4
            have d31' := d31.1
            cases hm : Q0 Cc (s.extract k e)
            . have HO : Hid (Dk (s.data.toList.drop k) = (1, (s.extract k e).data.toList)) := Lib.hid (by rw [E5 hk hlet, HX.out, <- HX.out, <- Cx, hm]; rfl)
              clear hlet
              go_region_held3 (fun w' => w'.cell? ⟨w.heap.size + 1, 1, none⟩ = some (.string (s.extract k e))) (go_keep) (first | (go_at_call 58; refine (Dj _).mono ?_; rintro e w' ⟨rfl, rfl⟩) | (go_at_call 105; refine (Gv _ 23 _ Cc _ _ rfl (by omega) (Dv _)).mono ?_; rintro e w' ⟨rfl, rfl⟩))
              go_wp2_with fail
              go_meet
              case rel =>
                exact ⟨s.extract k e, by rw [HO.out]; exact HT3.out.below HB4.out, by rw [HO.out], HZ3.out.below HB4.out, HB3.out.trans (HB4.out.mono HB3.out.size)⟩
            . have HO : Hid (Dk (s.data.toList.drop k) = (2, (s.extract k e).data.toList)) := Lib.hid (by rw [E5 hk hlet, HX.out, <- HX.out, <- Cx, hm]; rfl)
              clear hlet
              go_region_held3 (fun w' => w'.cell? ⟨w.heap.size + 1, 1, none⟩ = some (.string (s.extract k e))) (go_keep) (first | (go_at_call 58; refine (Dj _).mono ?_; rintro e w' ⟨rfl, rfl⟩) | (go_at_call 105; refine (Gv _ 23 _ Cc _ _ rfl (by omega) (Dv _)).mono ?_; rintro e w' ⟨rfl, rfl⟩))
              go_wp2_with fail
              go_meet
              case rel =>
                have hT5 := HT3.out.set0 2
                have hZ5 := HZ3.out.far hne 0 (.int .i64 2)
                have hB5 := HB3.out.setCell (p := ⟨w.heap.size + 1, 0, none⟩) (Nat.le_succ _) (.int .i64 2)
                have hb6 := ((Below.refl (w3.setCell ⟨w.heap.size + 1, 0, none⟩ (.int .i64 2)).heap.size (w3.setCell ⟨w.heap.size + 1, 0, none⟩ (.int .i64 2))).alloc (Nat.le_refl _) (.cells Cm 9)).drew
                exact ⟨s.extract k e, by rw [HO.out]; exact hT5.below hb6, by rw [HO.out], hZ5.below hb6, hB5.trans (hb6.mono hB5.size)⟩
        case rest =>
          obtain ⟨tx, hTc, htx, hZc, hBc⟩ := hcut
          obtain rfl := Pa htx
          obtain ⟨kd, hkd⟩ : ∃ x, (Dk (s.data.toList.drop k)).1 = x := ⟨_, rfl⟩
          obtain ⟨tl, htl⟩ : ∃ x, (Dk (s.data.toList.drop k)).2 = x := ⟨_, rfl⟩
          have hpost : ∀ e w', Kd s k w e w' <-> (e = .returned (.tuple #[.agg #[.int .i64 kd, .string (Aq tl), .int .i64 k], .bool (Ay kd tl)]) /\ Below w.heap.size w w') := by
            intro e w'; unfold Kd; rw [hkd, htl]
          have HPO := Lib.hid hpost
          have htsz : (Aq tl).size <= 1000000 := by
            have := Mz (s := s) (k := k) (tx := Aq tl) (by rw [Dn, htl]); omega
          rw [hkd, htl] at hTc
          have HTc := Lib.hid hTc
          have HZc := Lib.hid hZc
          have HBc := Lib.hid hBc
          obtain ⟨p0, p1, p2⟩ := hTc.cells
          have q0 := Br p0
          have q1 := Br p1
          have q2 := Br p2
          clear hTc hZc hBc htx hkd htl hpost p0 p1 p2
          go_wp2_with fail
          refine Fb 6 (by kernel_rfl) (by kernel_rfl) ?_
          simp only [List.take_succ_cons, List.take_zero, List.drop_succ_cons, List.drop_zero]
          repeat (go_big_quiet_step ((go_at_call 107; exact Calls.later_of (I8 _ _ _ (by omega)))))
          refine wpQuiet_nil ?_
          intro w6 hb6
          have HZ6 := Lib.hid (HZc.out.below hb6)
          have HB6 := Lib.hid (HBc.out.trans (hb6.mono HBc.out.size))
          have z0 := HZ6.out.cells
          have z1 := HZ6.out.free
          rw [Dn]
          clear q0 q1 q2 hb6
          go_wp2
          have HE : Hid (Cw (((w6.setCell ⟨w.heap.size, 0, none⟩ (.int .i64 kd)).setCell ⟨w.heap.size, 1, none⟩ (.string (Aq tl))).setCell ⟨w.heap.size, 2, none⟩ (.int .i64 (k : Int))) w.heap.size kd (Aq tl) k) := Lib.hid (((HZ6.out.set0 kd).set1 _).set2 k)
          have HG := Lib.hid (((HB6.out.setCell (p := ⟨w.heap.size, 0, none⟩) (Nat.le_refl _) (.int .i64 kd)).setCell (p := ⟨w.heap.size, 1, none⟩) (Nat.le_refl _) (.string (Aq tl))).setCell (p := ⟨w.heap.size, 2, none⟩) (Nat.le_refl _) (.int .i64 (k : Int)))
          generalize (((w6.setCell ⟨w.heap.size, 0, none⟩ (.int .i64 kd)).setCell ⟨w.heap.size, 1, none⟩ (.string (Aq tl))).setCell ⟨w.heap.size, 2, none⟩ (.int .i64 (k : Int))) = w9 at HE HG |-
          have q := HE.out.cells
          exact bodyPost_ret (v := .tuple #[.agg #[.int .i64 kd, .string (Aq tl), .int .i64 k], .bool (Ay kd tl)]) (by simp [results, Tryz.results62, go_sem, q.1, q.2.1, q.2.2]) rfl ((HPO.out _ _).2 ⟨rfl, HG.out⟩)
      . clear hmore
        go_upto_block 2 with (fail)
        have hne : ¬ w.heap.size = w.heap.size + 1 := by omega
        go_cut [] (fun w' => Adu s k w w')
        case first =>
          refine E1 (F := fun w' => Cw w' (w.heap.size + 1) 0 ⟨#[]⟩ k /\ Cw w' w.heap.size 0 ⟨#[]⟩ 0 /\ Below w.heap.size w w') ⟨A2 (by simp), At (A2 rfl), ((Below.refl _ _).alloc (Nat.le_refl _) _).alloc (by simp) _⟩ ?_
          rintro w2 ⟨hT2, hZ2, hB2⟩
          have HT2 := Lib.hid hT2
          have HZ2 := Lib.hid hZ2
          have HB2 := Lib.hid hB2
          have d20 := hT2.cells
          have d21 := hT2.free
          have d22 := B8 hT2
          clear hT2 hZ2 hB2
          cases hlet : B7 s[k]
          . cases hdig : Bi s[k]
            . have HS : Hid (Dk (s.data.toList.drop k) = (4, if Oi Bz ((s.data.toList.drop k).take 2) then (s.data.toList.drop k).take 2 else (s.data.toList.drop k).take 1)) := Lib.hid (Pm hk hlet hdig)
              go_wp2_with (first | (go_at_call 104; refine (Cg _ _).mono ?_; rintro e' w' ⟨rfl, rfl⟩) | (go_at_call 106; refine (Es _ _).mono ?_; rintro e' w' ⟨rfl, rfl⟩))
              have g1 : (0 : Int) <= (k : Int) + 1 := by omega
              have g2 : (k : Int) + 1 <= s.size := by omega
              have g3 : ((k : Int) + 1).toNat = k + 1 := by omega
              have g4 : IntKind.i64.wrap ((k : Int) + 1) = (k : Int) + 1 := IntWalk.i64_in _ (by omega)
              go_region
              go_wp2_with fail
              clear g1 g2 g3 g4
              refine E1 (F := fun w' => Cw w' (w.heap.size + 1) (4) (s.extract k (k + 1)) k /\ Cw w' w.heap.size 0 ⟨#[]⟩ 0 /\ Below w.heap.size w w') ⟨(HT2.out.set0 4).set1 _, (HZ2.out.far hne _ _).far hne _ _, ((HB2.out.setCell (p := ⟨w.heap.size + 1, 0, none⟩) (Nat.le_succ _) _).setCell (p := ⟨w.heap.size + 1, 1, none⟩) (Nat.le_succ _) _).drew⟩ ?_
              rintro w3 ⟨hT3, hZ3, hB3⟩
              clear d20 d21 d22 HT2 HZ2 HB2
              have HT3 := Lib.hid hT3
              have HZ3 := Lib.hid hZ3
              have HB3 := Lib.hid hB3
              have d30 := hT3.cells
              have d31 := hT3.free
              have d32 := B8 hT3
              clear hT3 hZ3 hB3
              have d31' := d31.2.1
              by_cases h2 : k + 2 <= s.size
              . have g1 : decide ((k : Int) + 2 <= s.size) = true := by simp; omega
                have g5 : (0 : Int) <= (k : Int) + 2 := by omega
                have g6 : (k : Int) <= (k : Int) + 2 := by omega
                have g7 : (0 : Int) <= (k : Int) := by omega
                have g8 : ((k : Int)).toNat = k := by omega
                have g2 : (k : Int) + 2 <= s.size := by omega
                have g3 : ((k : Int) + 2).toNat = k + 2 := by omega
                have g4 : IntKind.i64.wrap ((k : Int) + 2) = (k : Int) + 2 := IntWalk.i64_in _ (by omega)
                have HB4 := Lib.hid (((Below.refl w3.heap.size w3).alloc (Nat.le_refl _) (.cells Cq 9)).drew)
                have HT5 := Lib.hid (HT3.out.set1 (s.extract k (k + 2)))
                have HZ5 := Lib.hid (HZ3.out.far hne 1 (.string (s.extract k (k + 2))))
                have HB5 := Lib.hid (HB3.out.setCell (p := ⟨w.heap.size + 1, 1, none⟩) (Nat.le_succ _) (.string (s.extract k (k + 2))))
                have HB6 := Lib.hid (((Below.refl (w3.setCell ⟨w.heap.size + 1, 1, none⟩ (.string (s.extract k (k + 2)))).heap.size (w3.setCell ⟨w.heap.size + 1, 1, none⟩ (.string (s.extract k (k + 2))))).alloc (Nat.le_refl _) (.cells Cq 9)).drew)
                cases hm : Q0 Dc (s.extract k (k + 2))
                . have HO : Hid (Dk (s.data.toList.drop k) = (4, (s.extract k (k + 1)).data.toList)) := Lib.hid (by
                    rw [HS.out, <- Gp, <- Em, hm, Hs]; rfl)
                  clear hlet hdig
                  go_region_held3 (fun _ => True) (trivial) (first | (go_at_call 59; refine (Gi _).mono ?_; rintro e w' ⟨rfl, rfl⟩) | (go_at_call 105; refine (Gv _ 21 _ Dc _ _ rfl (by omega) (Du _)).mono ?_; rintro e w' ⟨rfl, rfl⟩))
                  all_goals clear g1 g2 g3 g4 g5 g6 g7 g8
                  all_goals go_wp2_with fail
                  all_goals go_meet
                  all_goals exact ⟨s.extract k (k + 1), by rw [HO.out]; exact HT3.out.below HB4.out, by rw [HO.out], HZ3.out.below HB4.out, HB3.out.trans (HB4.out.mono HB3.out.size)⟩
                . have HO : Hid (Dk (s.data.toList.drop k) = (4, (s.extract k (k + 2)).data.toList)) := Lib.hid (by
                    rw [HS.out, <- Gp, <- Em, hm]; rfl)
                  clear hlet hdig
                  go_region_held3 (fun _ => True) (trivial) (first | (go_at_call 59; refine (Gi _).mono ?_; rintro e w' ⟨rfl, rfl⟩) | (go_at_call 105; refine (Gv _ 21 _ Dc _ _ rfl (by omega) (Du _)).mono ?_; rintro e w' ⟨rfl, rfl⟩))
                  all_goals go_wp2_with fail
                  all_goals go_meet
                  all_goals exact ⟨s.extract k (k + 2), by rw [HO.out]; exact HT5.out.below HB6.out, by rw [HO.out], HZ5.out.below HB6.out, HB5.out.trans (HB6.out.mono HB5.out.size)⟩
              . have g1 : decide ((k : Int) + 2 <= s.size) = false := by simp; omega
                have g4 : IntKind.i64.wrap ((k : Int) + 2) = (k : Int) + 2 := IntWalk.i64_in _ (by omega)
                have HO : Hid (Dk (s.data.toList.drop k) = (4, (s.extract k (k + 1)).data.toList)) := Lib.hid (by
                    rw [HS.out, Zu h2, <- Hs]; simp)
                refine Al (by kernel_rfl) (by kernel_rfl) ?_
                repeat (go_big_quiet_step (fail))
                refine wpQuiet_nil ?_
                intro w4 hb4
                clear g1 g4
                go_wp2_with fail
                go_meet
                case rel => exact ⟨s.extract k (k + 1), by rw [HO.out]; exact HT3.out.below hb4, by rw [HO.out], HZ3.out.below hb4, HB3.out.trans (hb4.mono HB3.out.size)⟩
            . have HO : Hid (Dk (s.data.toList.drop k) = (3, (s.extract k e).data.toList)) := Lib.hid (by rw [M9 hk hlet hdig, Cj, <- HW.out])
              go_wp2_with (first | (go_at_call 104; refine (Cg _ _).mono ?_; rintro e' w' ⟨rfl, rfl⟩) | (go_at_call 106; refine (Es _ _).mono ?_; rintro e' w' ⟨rfl, rfl⟩))
              go_region
              go_wp2_with fail
              go_meet
              case rel =>
                exact ⟨s.extract k e, by rw [HO.out]; exact (HT2.out.set0 3).set1 _, by rw [HO.out], (HZ2.out.far hne _ _).far hne _ _, ((HB2.out.setCell (p := ⟨w.heap.size + 1, 0, none⟩) (Nat.le_succ _) _).setCell (p := ⟨w.heap.size + 1, 1, none⟩) (Nat.le_succ _) _).drew⟩
          . go_wp2_with (go_at_call 104; refine (Cg _ _).mono ?_; rintro e' w' ⟨rfl, rfl⟩)
            go_region
            go_wp2_with fail
            refine E1 (F := fun w' => Cw w' (w.heap.size + 1) (1) (s.extract k e) k /\ Cw w' w.heap.size 0 ⟨#[]⟩ 0 /\ Below w.heap.size w w') ⟨(HT2.out.set0 1).set1 _, (HZ2.out.far hne _ _).far hne _ _, ((HB2.out.setCell (p := ⟨w.heap.size + 1, 0, none⟩) (Nat.le_succ _) _).setCell (p := ⟨w.heap.size + 1, 1, none⟩) (Nat.le_succ _) _).drew⟩ ?_
            rintro w3 ⟨hT3, hZ3, hB3⟩
            clear d20 d21 d22 HT2 HZ2 HB2
            have HT3 := Lib.hid hT3
            have HZ3 := Lib.hid hZ3
            have HB3 := Lib.hid hB3
            have d30 := hT3.cells
            have d31 := hT3.free
            have d32 := B8 hT3
            clear hT3 hZ3 hB3
            have HX : Hid ((s.extract k e).data.toList = (s.data.toList.drop k).takeWhile B9) := Lib.hid (by rw [HW.out, Cj])
            have hb4 : Below w3.heap.size w3 (w3.alloc (.cells Cm 9)).drew := ((Below.refl _ _).alloc (Nat.le_refl _) _).drew
            have HB4 := Lib.hid hb4
            clear hb4
            have d31' := d31.1
            cases hm : Q0 Cc (s.extract k e)
            . have HO : Hid (Dk (s.data.toList.drop k) = (1, (s.extract k e).data.toList)) := Lib.hid (by rw [E5 hk hlet, HX.out, <- HX.out, <- Cx, hm]; rfl)
              clear hlet
              go_region_held3 (fun w' => w'.cell? ⟨w.heap.size + 1, 1, none⟩ = some (.string (s.extract k e))) (go_keep) (first | (go_at_call 58; refine (Dj _).mono ?_; rintro e w' ⟨rfl, rfl⟩) | (go_at_call 105; refine (Gv _ 23 _ Cc _ _ rfl (by omega) (Dv _)).mono ?_; rintro e w' ⟨rfl, rfl⟩))
              go_wp2_with fail
              go_meet
              case rel =>
                exact ⟨s.extract k e, by rw [HO.out]; exact HT3.out.below HB4.out, by rw [HO.out], HZ3.out.below HB4.out, HB3.out.trans (HB4.out.mono HB3.out.size)⟩
            . have HO : Hid (Dk (s.data.toList.drop k) = (2, (s.extract k e).data.toList)) := Lib.hid (by rw [E5 hk hlet, HX.out, <- HX.out, <- Cx, hm]; rfl)
              clear hlet
              go_region_held3 (fun w' => w'.cell? ⟨w.heap.size + 1, 1, none⟩ = some (.string (s.extract k e))) (go_keep) (first | (go_at_call 58; refine (Dj _).mono ?_; rintro e w' ⟨rfl, rfl⟩) | (go_at_call 105; refine (Gv _ 23 _ Cc _ _ rfl (by omega) (Dv _)).mono ?_; rintro e w' ⟨rfl, rfl⟩))
              go_wp2_with fail
              go_meet
              case rel =>
                have hT5 := HT3.out.set0 2
                have hZ5 := HZ3.out.far hne 0 (.int .i64 2)
                have hB5 := HB3.out.setCell (p := ⟨w.heap.size + 1, 0, none⟩) (Nat.le_succ _) (.int .i64 2)
                have hb6 := ((Below.refl (w3.setCell ⟨w.heap.size + 1, 0, none⟩ (.int .i64 2)).heap.size (w3.setCell ⟨w.heap.size + 1, 0, none⟩ (.int .i64 2))).alloc (Nat.le_refl _) (.cells Cm 9)).drew
                exact ⟨s.extract k e, by rw [HO.out]; exact hT5.below hb6, by rw [HO.out], hZ5.below hb6, hB5.trans (hb6.mono hB5.size)⟩
        case rest =>
          obtain ⟨tx, hTc, htx, hZc, hBc⟩ := hcut
          obtain rfl := Pa htx
          obtain ⟨kd, hkd⟩ : ∃ x, (Dk (s.data.toList.drop k)).1 = x := ⟨_, rfl⟩
          obtain ⟨tl, htl⟩ : ∃ x, (Dk (s.data.toList.drop k)).2 = x := ⟨_, rfl⟩
          have hpost : ∀ e w', Kd s k w e w' <-> (e = .returned (.tuple #[.agg #[.int .i64 kd, .string (Aq tl), .int .i64 k], .bool (Ay kd tl)]) /\ Below w.heap.size w w') := by
            intro e w'; unfold Kd; rw [hkd, htl]
          have HPO := Lib.hid hpost
          have htsz : (Aq tl).size <= 1000000 := by
            have := Mz (s := s) (k := k) (tx := Aq tl) (by rw [Dn, htl]); omega
          rw [hkd, htl] at hTc
          have HTc := Lib.hid hTc
          have HZc := Lib.hid hZc
          have HBc := Lib.hid hBc
          obtain ⟨p0, p1, p2⟩ := hTc.cells
          have q0 := Br p0
          have q1 := Br p1
          have q2 := Br p2
          clear hTc hZc hBc htx hkd htl hpost p0 p1 p2
          go_wp2_with fail
          refine Fb 6 (by kernel_rfl) (by kernel_rfl) ?_
          simp only [List.take_succ_cons, List.take_zero, List.drop_succ_cons, List.drop_zero]
          repeat (go_big_quiet_step ((go_at_call 107; exact Calls.later_of (I8 _ _ _ (by omega)))))
          refine wpQuiet_nil ?_
          intro w6 hb6
          have HZ6 := Lib.hid (HZc.out.below hb6)
          have HB6 := Lib.hid (HBc.out.trans (hb6.mono HBc.out.size))
          have z0 := HZ6.out.cells
          have z1 := HZ6.out.free
          rw [Dn]
          clear q0 q1 q2 hb6
          go_wp2
          have HE : Hid (Cw (((w6.setCell ⟨w.heap.size, 0, none⟩ (.int .i64 kd)).setCell ⟨w.heap.size, 1, none⟩ (.string (Aq tl))).setCell ⟨w.heap.size, 2, none⟩ (.int .i64 (k : Int))) w.heap.size kd (Aq tl) k) := Lib.hid (((HZ6.out.set0 kd).set1 _).set2 k)
          have HG := Lib.hid (((HB6.out.setCell (p := ⟨w.heap.size, 0, none⟩) (Nat.le_refl _) (.int .i64 kd)).setCell (p := ⟨w.heap.size, 1, none⟩) (Nat.le_refl _) (.string (Aq tl))).setCell (p := ⟨w.heap.size, 2, none⟩) (Nat.le_refl _) (.int .i64 (k : Int)))
          generalize (((w6.setCell ⟨w.heap.size, 0, none⟩ (.int .i64 kd)).setCell ⟨w.heap.size, 1, none⟩ (.string (Aq tl))).setCell ⟨w.heap.size, 2, none⟩ (.int .i64 (k : Int))) = w9 at HE HG |-
          have q := HE.out.cells
          exact bodyPost_ret (v := .tuple #[.agg #[.int .i64 kd, .string (Aq tl), .int .i64 k], .bool (Ay kd tl)]) (by simp [results, Tryz.results62, go_sem, q.1, q.2.1, q.2.2]) rfl ((HPO.out _ _).2 ⟨rfl, HG.out⟩)
end Go.Proofs.YtiledamgmppcmaaGreatDoor
namespace Go.Proofs.YtiledamgmppcmaaGreatDoor
open Go.RowKit
def Ue (s : ByteArray) (w : World) (out i : Value) (wr : World) : Prop :=
  ∃ (k f : Nat) (acc : List Tok), i = .int .i64 k /\ k <= s.size /\ Bb false (s.data.toList.drop k) = s.data.toList.drop k /\ s.size - k < f /\
    Cv s.data.toList.length f (s.data.toList.drop k) acc = Cv s.data.toList.length (s.data.toList.length + 1) s.data.toList [] /\
    wr.ownsRow w.heap.size 47 3 out acc.length (Jb acc) /\ acc.length <= 2000 /\ Below w.heap.size w wr
theorem Qk {W W' : World} {base e size n : Nat} {v : Value} {xs : List Value} (h : W.ownsRow base e size v n xs) (hb : Below W.heap.size W W') : W'.ownsRow base e size v n xs :=
  h.kept (Jp hb) (by rcases h.2 with ⟨rfl, _⟩ | ⟨g, cap, cur, rfl, _⟩ <;> simp [Value.ownBlock])
theorem Anx {W : World} {base e size n : Nat} {v : Value} {xs : List Value} (h : W.ownsRow base e size v n xs) {b : Nat} (hb : W.heap.size <= b) : v.ownBlock ≠ some b := by
  intro e'
  have := h.lt b e'
  omega
theorem V5 (w : World) (o : Obj) (cs : List Value) (t : TypeId) : ∀ j u, cs[j]? = some u -> ((w.alloc o).alloc (.cells cs.toArray t)).cell? ((⟨w.heap.size + 1, 0, none⟩ : Addr).add j) = some u := by
  have h := Ur (w.alloc o) cs t
  rw [World.size_alloc] at h
  exact h
set_option maxRecDepth 100000 in
set_option maxHeartbeats 4000000 in
theorem Y8 (s : ByteArray) (w : World) : Calls Tryz.prog 26 #[.string s] w (P6 s w) := by
  rcases Nat.lt_or_ge 20000 s.size with hs | hs
  . have hsc : Cn s.data.toList = ([], 0, 3) := by unfold Cn; rw [if_pos (by simpa using hs)]
    have HSC := Lib.hid hsc
    clear hsc
    have hdec : decide (20000 < (s.size : Int)) = true := by simp; omega
    go_enter Tryz.func26, Tryz.ntmps26
    go_wp2
    go_ret3
    exact ⟨.slice none 0 0, by rw [HSC.out]; rfl, by rw [HSC.out]; exact World.ownsRow_nil _ _ _ _, Below.refl _ _⟩
  . have hsc : Cn s.data.toList = Cv s.data.toList.length (s.data.toList.length + 1) s.data.toList [] := T7 (by simpa using hs)
    have HSC := Lib.hid hsc
    clear hsc
    have hdec : decide (20000 < (s.size : Int)) = false := by simp; omega
    go_enter Tryz.func26, Tryz.ntmps26
    go_wp2_with fail
    refine (R1 s 0 w (by omega) (by omega)).mono ?_
    rintro e w' ⟨rfl, rfl⟩
    have hstart : Ue s w (.slice none 0 0) (.int .i64 (M3 s.data.toList 0)) w := ⟨M3 s.data.toList 0, s.data.toList.length + 1, [], rfl, by have := Tc s.data.toList 0 (by omega); simpa using this.2, by rw [Gk, L0], by simp; omega, by rw [Gk, Gj]; simp, World.ownsRow_nil _ _ _ _, by simp, Below.refl _ _⟩
    have HS := Lib.hid hstart
    clear hstart
    go_wp2
    go_loopw [5, 6] (fun out i wr => Ue s w out i wr) (fun _ i _ => s.size - (intOf i).toNat)
    case atStart => exact HS.out
    case round =>
      clear HS
      obtain ⟨k, f, acc, rfl, hk, hsk, hf, hsc, hrow, hacc, hB⟩ := hrel
      have HSK := Lib.hid hsk
      have HSG := Lib.hid hsc
      have HROW := Lib.hid hrow
      have HB := Lib.hid hB
      obtain ⟨pp, cap, rfl⟩ := Ol hrow
      have hBs := hB.size
      clear hsk hsc hrow hB
      by_cases hlt : k < s.size
      . have hlk : k < s.data.toList.length := by simpa using hlt
        have HNE : Hid (s.data.toList.drop k ≠ []) := Lib.hid (by rw [H4 hlk]; simp)
        have HPOS : Hid (s.data.toList.length - (s.data.toList.drop k).length = k) := Lib.hid (by simp; omega)
        go_wp2_with fail
        refine (Acs s k wr (by omega) hlt).mono ?_
        rintro e w1 ⟨rfl, hb1⟩
        have htsz : (Dk (s.data.toList.drop k)).2.length <= s.size - k := by
          have h := Mz (s := s) (k := k) (tx := Aq (Dk (s.data.toList.drop k)).2) (Dn _)
          have h2 : (Aq (Dk (s.data.toList.drop k)).2).size = (Dk (s.data.toList.drop k)).2.length := by simp [Aq, ByteArray.size]
          omega
        obtain ⟨kd, hkd⟩ : ∃ x, (Dk (s.data.toList.drop k)).1 = x := ⟨_, rfl⟩
        obtain ⟨tl, htl⟩ : ∃ x, (Dk (s.data.toList.drop k)).2 = x := ⟨_, rfl⟩
        rw [hkd, htl]
        rw [htl] at htsz
        have HKD := Lib.hid hkd
        have HTL := Lib.hid htl
        have HR1 := Lib.hid (Qk HROW.out hb1)
        have HB1 := Lib.hid (HB.out.trans (hb1.mono HB.out.size))
        have hbs1 := hb1.size
        clear hkd htl hb1 HROW HB
        obtain ⟨f', rfl⟩ : ∃ f', f = f' + 1 := ⟨f - 1, by omega⟩
        cases hri : Ay kd tl
        . have HF : Hid (Cv s.data.toList.length (s.data.toList.length + 1) s.data.toList [] = ([], k, 340)) := Lib.hid (by
            rw [<- HSG.out, Zf HSK.out HNE.out (by rw [HKD.out, HTL.out]; exact hri), HPOS.out])
          go_wp2
          go_ret3
          exact ⟨.slice none 0 0, by rw [HSC.out, HF.out]; rfl, by rw [HSC.out, HF.out]; exact World.ownsRow_nil _ _ _ _, HB1.out.alloc HB1.out.size _⟩
        . by_cases h2000 : acc.length = 2000
          . have HF : Hid (Cv s.data.toList.length (s.data.toList.length + 1) s.data.toList [] = ([], k, 3)) := Lib.hid (by
              rw [<- HSG.out, Wm HSK.out HNE.out (by rw [HKD.out, HTL.out]; exact hri) h2000, HPOS.out])
            have hd : ((acc.length : Int) == 2000) = true := by rw [h2000]; rfl
            clear h2000
            go_wp2
            go_ret3
            exact ⟨.slice none 0 0, by rw [HSC.out, HF.out]; rfl, by rw [HSC.out, HF.out]; exact World.ownsRow_nil _ _ _ _, HB1.out.alloc HB1.out.size _⟩
          . have HF : Hid (Cv s.data.toList.length (f' + 1) (s.data.toList.drop k) acc = Cv s.data.toList.length f' ((s.data.toList.drop k).drop tl.length) (acc ++ [⟨kd, tl, k⟩])) := Lib.hid (by
              rw [Na HSK.out HNE.out (by rw [HKD.out, HTL.out]; exact hri) h2000, HKD.out, HTL.out, HPOS.out])
            have hd : ((acc.length : Int) == 2000) = false := by simp; omega
            have hl2 : 1 <= tl.length := by
              have := Ek hri
              cases tl with | nil => exact absurd rfl this | cons => simp
            obtain ⟨i0, hi, hz0, hz1, hz2⟩ := info_parts Ab4
            have hle : k + tl.length <= s.size := by omega
            have HTK : Hid (Cw (w1.alloc (.cells #[.int .i64 kd, .string (Aq tl), .int .i64 (k : Int)] 47)) w1.heap.size kd (Aq tl) k) := Lib.hid (heap_alloc_new w1 _)
            have HB2 := Lib.hid (HB1.out.alloc HB1.out.size (.cells #[.int .i64 kd, .string (Aq tl), .int .i64 (k : Int)] 47))
            have HE : Hid ((k : Int) + ((Aq tl).size : Int) = ((k + tl.length : Nat) : Int)) := Lib.hid (by simp [Aq, ByteArray.size])
            have hbz : ((k : Int) + ((Aq tl).size : Int)) <= 1000000 := by rw [HE.out]; omega
            have hbz0 : 0 <= ((Aq tl).size : Int) := by omega
            go_wp2_with (at_builtin; refine wpList_append_own _ rfl _ _ 44 rfl w.heap.size 47 i0 (.agg #[.int .i64 0, .string ⟨#[]⟩, .int .i64 0]) 3 32 Adi hi hz0 hz1 hz2 rfl (by decide) _ _ _ rfl ((HR1.out.alloc _).alloc _) ⟨w1.heap.size + 1, 0, none⟩ 1 1 [.int .i64 kd, .string (Aq tl), .int .i64 (k : Int)] rfl rfl (V5 _ _ _ _) (by simp [Value.oneCell']) (by simp [maxLen]; omega) (by omega) (by simp; omega) ?_; intro v' w2 hown' hgrow _; obtain ⟨g', cap', rfl⟩ := ownsRow_succ hown'; have HT2 : Hid (Cw w2 w1.heap.size kd (Aq tl) k) := Lib.hid ((hgrow.block _ (by simp; omega) (fun e => Anx HR1.out (Nat.le_refl _) e.symm)).trans (At HTK.out)); have t2 := HT2.out.cells.2.1; have HO := Lib.hid hown'; have HG : Hid (Below w.heap.size w w2) := Lib.hid ((HB2.out.alloc HB2.out.size _).grown hgrow (Nat.le_trans HB2.out.size (by simp)) (fun b e => (HR1.out.lt b e).1)); clear hown' hgrow)
            rw [HE.out]
            refine (R1 s (k + tl.length) w2 (by omega) hle).mono ?_
            rintro e w3 ⟨rfl, rfl⟩
            have hsn := Tc s.data.toList (k + tl.length) (by simpa using hle)
            go_wp2
            go_roundw
            case rel =>
              refine ⟨M3 s.data.toList (k + tl.length), f', acc ++ [⟨kd, tl, k⟩], rfl, by simpa using hsn.2, by rw [Gk, L0], by have := hsn.1; omega, ?_, ?_, by simp; omega, HG.out⟩
              . rw [<- HSG.out, HF.out, List.drop_drop, Gk]
                obtain ⟨f'', rfl⟩ : ∃ f'', f' = f'' + 1 := ⟨f' - 1, by omega⟩
                exact Gj _ _ _ _
              . rw [Qu, List.length_append]; exact HO.out
            case measure => simp [intOf]; have := hsn.1; have := hsn.2; simp at this; omega
      . obtain rfl : k = s.size := by omega
        obtain ⟨f', rfl⟩ : ∃ f', f = f' + 1 := ⟨f - 1, by omega⟩
        have HF : Hid (Cv s.data.toList.length (s.data.toList.length + 1) s.data.toList [] = (acc, 0, 0)) := Lib.hid (by
          rw [<- HSG.out, show s.data.toList.drop s.size = [] from List.drop_eq_nil_of_le (by simp), Pv])
        go_wp2
        go_ret3
        exact ⟨.slice pp acc.length cap, by rw [HSC.out, HF.out]; rfl, by rw [HSC.out, HF.out]; exact HROW.out, HB.out⟩
end Go.Proofs.YtiledamgmppcmaaGreatDoor
namespace Go.Proofs.YtiledamgmppcmaaGreatDoor
open Go.RowKit
structure ZTok where
  kind : Int
  text : List UInt8
  pos : Int
deriving DecidableEq
def Tok.z (t : Tok) : ZTok := ⟨t.kind, t.text, t.pos⟩
def ZTok.val (t : ZTok) : Value := .agg #[.int .i64 t.kind, .string (Aq t.text), .int .i64 t.pos]
end Go.Proofs.YtiledamgmppcmaaGreatDoor
namespace Go.Proofs.YtiledamgmppcmaaGreatDoor
open Go.RowKit
def ListS {α : Type} (f : α -> Value) (w : World) (v : Value) (l : List α) : Prop :=
  ∃ (p : Option Addr) (cap : Nat), v = .slice p l.length cap /\ l.length <= cap /\ cap <= 9223372036854775807 /\ (l ≠ [] -> ∃ b o, p = some ⟨b, o, none⟩ /\ ∀ (j : Nat) (x : α), l[j]? = some x -> w.cell? ⟨b, o + j, none⟩ = some (f x))
end Go.Proofs.YtiledamgmppcmaaGreatDoor
namespace Go.Proofs.YtiledamgmppcmaaGreatDoor
open Go.RowKit
set_option maxHeartbeats 2000000 in
theorem B2 (op : Int) (w : World) :
    Calls Tryz.prog 141 #[.int .i64 op] w fun e w' => e = .returned (.int .i64 (Fl op)) /\ w = w' := by
  by_cases h : 1 <= op /\ op <= 19
  . obtain ⟨k, rfl⟩ := Int.eq_ofNat_of_zero_le (show 0 <= op by omega)
    obtain rfl | rfl | rfl | rfl | rfl | rfl | rfl | rfl | rfl | rfl | rfl | rfl | rfl | rfl | rfl | rfl | rfl | rfl | rfl : k = 1 \/ k = 2 \/ k = 3 \/ k = 4 \/ k = 5 \/ k = 6 \/ k = 7 \/ k = 8 \/ k = 9 \/ k = 10 \/ k = 11 \/ k = 12 \/ k = 13 \/ k = 14 \/ k = 15 \/ k = 16 \/ k = 17 \/ k = 18 \/ k = 19 := by omega
    all_goals
      go_enter Tryz.func141, Tryz.ntmps141
      go_wp2
      go_ret
      exact ⟨rfl, rfl⟩
  . have HA := Lib.hid (Um op (by omega))
    have h1 : (op == 1) = false := by simp; omega
    have h2 : (op == 2) = false := by simp; omega
    have h3 : (op == 3) = false := by simp; omega
    have h4 : (op == 4) = false := by simp; omega
    have h5 : (op == 5) = false := by simp; omega
    have h6 : (op == 6) = false := by simp; omega
    have h7 : (op == 7) = false := by simp; omega
    have h8 : (op == 8) = false := by simp; omega
    have h9 : (op == 9) = false := by simp; omega
    have h10 : (op == 10) = false := by simp; omega
    have h11 : (op == 11) = false := by simp; omega
    have h12 : (op == 12) = false := by simp; omega
    have h13 : (op == 13) = false := by simp; omega
    have h14 : (op == 14) = false := by simp; omega
    have h15 : (op == 15) = false := by simp; omega
    have h16 : (op == 16) = false := by simp; omega
    have h17 : (op == 17) = false := by simp; omega
    have h18 : (op == 18) = false := by simp; omega
    have h19 : (op == 19) = false := by simp; omega
    clear h
    go_enter Tryz.func141, Tryz.ntmps141
    go_wp2
    go_ret
    exact ⟨by rw [HA.out]; rfl, rfl⟩
theorem O4 (l : List UInt8) : (B5 1 l 0 = 0) <-> Ei l = true := by
  unfold B5 Ay
  rw [if_pos rfl]
  cases h : Ei l with
  | true => simp
  | false => simp
mutual
theorem Mm (left d k : Nat) : (x : Ex) -> vis left d x = some k -> k <= left
  | .mk op n nm l => by
    rw [Tu]
    intro h
    split at h
    . cases h
    . exact Nat.le_trans (Sk _ _ _ l h) (Nat.sub_le _ _)
theorem Sk (left d k : Nat) : (l : List Ex) -> Dt left d l = some k -> k <= left
  | [] => by simp [Dt]; omega
  | x :: r => by
    rw [Dt]
    intro h
    cases hv : vis left d x with
    | none => rw [hv] at h; cases h
    | some m => rw [hv] at h; exact Nat.le_trans (Sk _ _ _ r h) (Mm _ _ _ x hv)
end
def L9 : Option Nat -> Int
  | none => -1
  | some k => k
set_option maxRecDepth 100000 in
set_option maxHeartbeats 4000000 in
theorem O6 {w : World} {sl : Value} {args : List Ex} (h : ArgsAt w sl args) : ∀ (x : Ex) (left d : Nat) (W : World), x.args = args -> x.name.size <= 9223372036854775807 -> left <= 60 -> d <= 13 -> Below w.heap.size w W ->
    Calls Tryz.prog 98 #[x.val sl, .int .i64 left, .int .i64 d] W fun e w' => e = .returned (.int .i64 (L9 (vis left d x))) /\ Below W.heap.size W w' := by
  induction h with
  | mk p cap args S hcap hmax hfit hname hargs ih =>
    intro x left d W hxa hxn hleft hd hbW
    obtain ⟨op, n, nm, l⟩ := x
    obtain rfl : l = args := hxa
    simp only [Ex.val, Ex.op, Ex.n, Ex.name] at hxn |-
    have HBW := Lib.hid hbW
    have HV := Lib.hid (Tu left d (.mk op n nm l))
    have HIH := Lib.hid ih
    clear ih hbW
    obtain ⟨W1, hW1⟩ : ∃ W1, W.alloc (.cells #[.int .i64 op, .int .i64 n, .string nm, .slice p l.length cap] 24) = W1 := ⟨_, rfl⟩
    have hb1 : Below W.heap.size W W1 := by rw [<- hW1]; exact (Below.refl _ _).alloc (Nat.le_refl _) _
    have hrow : W1.heap[W.heap.size]? = some (.cells #[.int .i64 op, .int .i64 n, .string nm, .slice p l.length cap] 24 (0, 0)) := by rw [<- hW1]; exact heap_alloc_new W _
    have c0 : W1.cell? ⟨W.heap.size, 0, none⟩ = some (.int .i64 op) := cell_of_row _ _ _ _ _ _ hrow
    have c1 : W1.cell? ⟨W.heap.size, 1, none⟩ = some (.int .i64 n) := cell_of_row _ _ _ _ _ _ hrow
    have c2 : W1.cell? ⟨W.heap.size, 2, none⟩ = some (.string nm) := cell_of_row _ _ _ _ _ _ hrow
    have c3 : W1.cell? ⟨W.heap.size, 3, none⟩ = some (.slice p l.length cap) := cell_of_row _ _ _ _ _ _ hrow
    have l0 := Br c0
    have l3 := Br c3
    have HW1 := Lib.hid hW1
    have HB1 := Lib.hid hb1
    have HC0 := Lib.hid c0
    have HC1 := Lib.hid c1
    have HC2 := Lib.hid c2
    have HC3 := Lib.hid c3
    clear hW1 hb1 hrow c0 c1 c2 c3
    obtain ⟨A, hAr⟩ : ∃ A, Fl op = A := ⟨_, rfl⟩
    have HAR := Lib.hid hAr
    have HP3 : Hid (¬ (A = (l.length : Int)) -> Cl (.mk op n nm l) = false) := Lib.hid (fun h => Ns (by rw [hAr]; omega))
    clear hAr
    by_cases g1 : left = 0
    . have HA : Hid (L9 (vis left d (.mk op n nm l)) = -1) := Lib.hid (by rw [HV.out, if_pos (.inl g1)]; rfl)
      subst g1
      have hd1 : decide (((0 : Nat) : Int) < 1) = true := rfl
      go_enter Tryz.func98, Tryz.ntmps98
      go_wp2_with fail
      rw [HW1.out]
      refine Al (by kernel_rfl) (by kernel_rfl) ?_
      repeat (go_big_quiet_step ((go_at_call 141; exact Calls.later_of ((B2 _ _).mono fun _ _ ⟨he, hw⟩ => ⟨by rw [he, HAR.out], by rw [<- hw]; exact Below.refl _ _⟩))))
      refine wpQuiet_nil ?_
      intro w2 hb2
      go_wp2
      go_ret
      exact ⟨by rw [HA.out]; rfl, HB1.out.trans (hb2.mono HB1.out.size)⟩
    . have hd1 : decide ((left : Int) < 1) = false := by simp; omega
      by_cases g2 : 12 < d
      . have HA : Hid (L9 (vis left d (.mk op n nm l)) = -1) := Lib.hid (by rw [HV.out, if_pos (.inr (.inl g2))]; rfl)
        have hd2 : decide (12 < (d : Int)) = true := by simp; omega
        go_enter Tryz.func98, Tryz.ntmps98
        go_wp2_with fail
        rw [HW1.out]
        refine Al (by kernel_rfl) (by kernel_rfl) ?_
        repeat (go_big_quiet_step ((go_at_call 141; exact Calls.later_of ((B2 _ _).mono fun _ _ ⟨he, hw⟩ => ⟨by rw [he, HAR.out], by rw [<- hw]; exact Below.refl _ _⟩))))
        refine wpQuiet_nil ?_
        intro w2 hb2
        go_wp2
        go_ret
        exact ⟨by rw [HA.out]; rfl, HB1.out.trans (hb2.mono HB1.out.size)⟩
      . have hd2 : decide (12 < (d : Int)) = false := by simp; omega
        by_cases g3 : A = (l.length : Int)
        . subst g3
          have hd3 : (((l.length : Int)) != (l.length : Int)) = false := by simp
          by_cases e1 : op = 2
          . obtain ⟨nb, hnb⟩ : ∃ nb, Ei nm.data.toList = nb := ⟨_, rfl⟩
            have HNB := Lib.hid hnb
            have HQ : Hid (Cl (.mk op n nm l) = (nb && decide (n = 0))) := Lib.hid (by
              rw [Bool.eq_iff_iff, I6, if_pos e1, O4, hnb, Bool.and_eq_true, decide_eq_true_eq]
              exact ⟨fun h => ⟨h.2.2.2.2, by omega⟩, fun h => ⟨HAR.out.symm, by omega, by omega, .inl h.2, h.1⟩⟩)
            clear hnb
            subst e1
            go_enter Tryz.func98, Tryz.ntmps98
            go_wp2_with fail
            rw [HW1.out]
            refine Al (by kernel_rfl) (by kernel_rfl) ?_
            repeat (go_big_quiet_step ((go_at_call 141; exact Calls.later_of ((B2 _ _).mono fun _ _ ⟨he, hw⟩ => ⟨by rw [he, HAR.out], by rw [<- hw]; exact Below.refl _ _⟩))))
            refine wpQuiet_nil ?_
            intro w2 hb2
            have k0 := Ae hb2 HC0.out
            have k1 := Ae hb2 HC1.out
            have k2 := Ae hb2 HC2.out
            have k3 := Ae hb2 HC3.out
            have HB2 := Lib.hid (HB1.out.trans (hb2.mono HB1.out.size))
            clear hb2
            go_wp2_with fail
            refine (Nw nm _ hxn).mono ?_
            rintro e w3 ⟨rfl, hb3⟩
            rw [HNB.out]
            have m0 := Ae hb3 k0
            have m1 := Ae hb3 k1
            have m2 := Ae hb3 k2
            have m3 := Ae hb3 k3
            have HB3 := Lib.hid (HB2.out.trans (hb3.mono HB2.out.size))
            clear hb3 k0 k1 k2 k3
            cases nb with
            | false =>
              have HA : Hid (L9 (vis left d (.mk 2 n nm l)) = -1) := Lib.hid (by rw [HV.out, if_pos (.inr (.inr (by rw [HQ.out]; rfl)))]; rfl)
              go_wp2
              go_ret
              exact ⟨by rw [HA.out]; rfl, HB3.out⟩
            | true =>
              by_cases e2 : n = 0
              . subst e2
                have HVL : Hid (vis left d (.mk 2 0 nm l) = Dt (left - 1) (d + 1) l) := Lib.hid (by rw [HV.out, if_neg (by rw [HQ.out]; simp; omega)]; rfl)
                have hl1 : (left : Int) - 1 = ((left - 1 : Nat) : Int) := by omega
                go_wp2_with fail
                go_loopw [1, 7] (fun c i wr => ∃ j k : Nat, j <= l.length /\ k <= 60 /\ c = .int .i64 k /\ i = .int .i64 j /\ Dt k (d + 1) (l.drop j) = vis left d (.mk 2 0 nm l) /\ Below w3.heap.size w3 wr) (fun _ i _ => l.length - (intOf i).toNat)
                case atStart => exact ⟨0, left - 1, Nat.zero_le _, by omega, by rw [<- hl1], rfl, HVL.out.symm, Below.refl _ _⟩
                case round =>
                  obtain ⟨j, k, hj, hk, rfl, rfl, hvl, hB⟩ := hrel
                  have HVJ := Lib.hid hvl
                  have HB := Lib.hid hB
                  have q3 := Ae hB m3
                  clear hvl hB m0 m1 m2 m3
                  by_cases hlt : j < l.length
                  . obtain ⟨a, ha⟩ : ∃ a, l[j]? = some a := ⟨_, List.getElem?_eq_getElem hlt⟩
                    have hbw : Below w.heap.size w wr := HBW.out.trans ((HB3.out.trans (HB.out.mono HB3.out.size)).mono HBW.out.size)
                    obtain ⟨pj, cj, Sj, hSj, -⟩ := (hargs j a ha).inv
                    have hsub := HIH.out j a ha a k (d + 1) wr rfl (hname j a ha) hk (by omega) hbw
                    rw [hSj] at hsub
                    have hdr : Dt k (d + 1) (l.drop j) = match vis k (d + 1) a with | none => none | some m => Dt m (d + 1) (l.drop (j + 1)) := by
                      obtain ⟨hj', rfl⟩ := List.getElem?_eq_some_iff.1 ha
                      rw [List.drop_eq_getElem_cons hj', Dt]
                      all_goals (cases vis k (d + 1) l[j] <;> rfl)
                    have hle := fun m => Mm k (d + 1) m a
                    obtain ⟨b, o, rfl, hc⟩ := hfit (by rintro rfl; simp at hlt)
                    obtain ⟨r0, r1, r2, r3⟩ := hc j a ha
                    have s0 := Ae hbw r0
                    have s1 := Ae hbw r1
                    have s2 := Ae hbw r2
                    have s3 := Ae hbw r3
                    rw [hSj] at s3
                    obtain ⟨V, hV⟩ : ∃ V, vis k (d + 1) a = V := ⟨_, rfl⟩
                    rw [hV] at hsub hdr
                    have HLE := Lib.hid (fun m h => hle m (hV.trans h))
                    have HDR := Lib.hid hdr
                    have HSUB := Lib.hid hsub
                    obtain ⟨oa, na, nma, la⟩ := a
                    simp only [Ex.op, Ex.n, Ex.name, Ex.args] at s0 s1 s2 s3
                    clear r0 r1 r2 r3 hc ha hSj hsub hdr hle hV hbw
                    go_wp2_with fail
                    refine HSUB.out.mono ?_
                    rintro e w5 ⟨rfl, hb5⟩
                    have HB5 := Lib.hid (HB.out.trans (hb5.mono HB.out.size))
                    have q5 := Ae hb5 q3
                    clear hb5 q3 s0 s1 s2 s3 HB
                    cases V with
                    | none =>
                      simp only [L9]
                      go_wp2
                      go_ret
                      have h := HVJ.out
                      rw [HDR.out] at h
                      exact ⟨by rw [<- h]; rfl, HB3.out.trans (HB5.out.mono HB3.out.size)⟩
                    | some m =>
                      have hm := HLE.out m rfl
                      simp only [L9]
                      go_wp2
                      go_roundw
                      case rel => exact ⟨j + 1, m, by omega, by omega, rfl, by go_num, by have h := HVJ.out; rw [HDR.out] at h; exact h, HB5.out⟩
                      case measure => simp [intOf]; omega
                  . obtain rfl : j = l.length := by omega
                    go_wp2
                    go_ret
                    have h := HVJ.out
                    rw [List.drop_length, Dt] at h
                    exact ⟨by rw [<- h]; rfl, HB3.out.trans (HB.out.mono HB3.out.size)⟩
              . have HA : Hid (L9 (vis left d (.mk 2 n nm l)) = -1) := Lib.hid (by rw [HV.out, if_pos (.inr (.inr (by rw [HQ.out]; simp [e2])))]; rfl)
                have hd4 : (n != 0) = true := by simpa using e2
                go_wp2
                go_ret
                exact ⟨by rw [HA.out]; rfl, HB3.out⟩
          . have hq : Cl (.mk op n nm l) = true <-> (0 <= n /\ n <= 9999 /\ (n = 0 \/ op = 1) /\ nm.size = 0) := by
              rw [I6, if_neg e1]
              exact ⟨fun h => h.2, fun h => ⟨HAR.out.symm, h⟩⟩
            have HNO : Hid (¬ (0 <= n /\ n <= 9999 /\ (n = 0 \/ op = 1) /\ nm.size = 0) -> L9 (vis left d (.mk op n nm l)) = -1) := Lib.hid (fun h => by
              rw [HV.out, if_pos (.inr (.inr (by cases hp : Cl (.mk op n nm l) with | false => rfl | true => exact absurd (hq.1 hp) h)))]; rfl)
            have HQ := Lib.hid hq
            clear hq
            have hop2 : (op == 2) = false := by simpa using e1
            have hop2' : (op != 2) = true := by simpa using e1
            by_cases e2 : nm.size = 0
            . have hnm := Ce e2
              by_cases e3 : n = 0 \/ op = 1
              . by_cases e4 : n < 0
                . have HA := Lib.hid (HNO.out (by omega))
                  by_cases e6 : n = 0
                  . omega
                  . obtain rfl : op = 1 := by omega
                    go_enter Tryz.func98, Tryz.ntmps98
                    go_wp2_with fail
                    rw [HW1.out]
                    refine Al (by kernel_rfl) (by kernel_rfl) ?_
                    repeat (go_big_quiet_step ((go_at_call 141; exact Calls.later_of ((B2 _ _).mono fun _ _ ⟨he, hw⟩ => ⟨by rw [he, HAR.out], by rw [<- hw]; exact Below.refl _ _⟩))))
                    refine wpQuiet_nil ?_
                    intro w2 hb2
                    have k0 := Ae hb2 HC0.out
                    have k1 := Ae hb2 HC1.out
                    have k2 := Ae hb2 HC2.out
                    have k3 := Ae hb2 HC3.out
                    have HB2 := Lib.hid (HB1.out.trans (hb2.mono HB1.out.size))
                    clear hb2
                    go_wp2
                    go_ret
                    exact ⟨by rw [HA.out]; rfl, HB2.out⟩
                . by_cases e5 : 9999 < n
                  . have HA := Lib.hid (HNO.out (by omega))
                    obtain rfl : op = 1 := by omega
                    go_enter Tryz.func98, Tryz.ntmps98
                    go_wp2_with fail
                    rw [HW1.out]
                    refine Al (by kernel_rfl) (by kernel_rfl) ?_
                    repeat (go_big_quiet_step ((go_at_call 141; exact Calls.later_of ((B2 _ _).mono fun _ _ ⟨he, hw⟩ => ⟨by rw [he, HAR.out], by rw [<- hw]; exact Below.refl _ _⟩))))
                    refine wpQuiet_nil ?_
                    intro w2 hb2
                    have k0 := Ae hb2 HC0.out
                    have k1 := Ae hb2 HC1.out
                    have k2 := Ae hb2 HC2.out
                    have k3 := Ae hb2 HC3.out
                    have HB2 := Lib.hid (HB1.out.trans (hb2.mono HB1.out.size))
                    clear hb2
                    go_wp2
                    go_ret
                    exact ⟨by rw [HA.out]; rfl, HB2.out⟩
                  . have HQY := Lib.hid (HQ.out.2 ⟨by omega, by omega, e3, e2⟩)
                    by_cases e6 : n = 0
                    . subst e6
                      by_cases e7 : op = 1
                      . subst e7
                        go_enter Tryz.func98, Tryz.ntmps98
                        go_wp2_with fail
                        rw [HW1.out]
                        refine Al (by kernel_rfl) (by kernel_rfl) ?_
                        repeat (go_big_quiet_step ((go_at_call 141; exact Calls.later_of ((B2 _ _).mono fun _ _ ⟨he, hw⟩ => ⟨by rw [he, HAR.out], by rw [<- hw]; exact Below.refl _ _⟩))))
                        refine wpQuiet_nil ?_
                        intro w2 hb2
                        have k0 := Ae hb2 HC0.out
                        have k1 := Ae hb2 HC1.out
                        have k2 := Ae hb2 HC2.out
                        have k3 := Ae hb2 HC3.out
                        have HB2 := Lib.hid (HB1.out.trans (hb2.mono HB1.out.size))
                        clear hb2
                        have HVL : Hid (vis left d (.mk 1 0 nm l) = Dt (left - 1) (d + 1) l) := Lib.hid (by rw [HV.out, if_neg (by rw [HQY.out]; simp; omega)]; rfl)
                        have hl1 : (left : Int) - 1 = ((left - 1 : Nat) : Int) := by omega
                        go_wp2_with fail
                        go_loopw [1, 7] (fun c i wr => ∃ j k : Nat, j <= l.length /\ k <= 60 /\ c = .int .i64 k /\ i = .int .i64 j /\ Dt k (d + 1) (l.drop j) = vis left d (.mk 1 0 nm l) /\ Below w2.heap.size w2 wr) (fun _ i _ => l.length - (intOf i).toNat)
                        case atStart => exact ⟨0, left - 1, Nat.zero_le _, by omega, by rw [<- hl1], rfl, HVL.out.symm, Below.refl _ _⟩
                        case round =>
                          obtain ⟨j, k, hj, hk, rfl, rfl, hvl, hB⟩ := hrel
                          have HVJ := Lib.hid hvl
                          have HB := Lib.hid hB
                          have q3 := Ae hB k3
                          clear hvl hB k0 k1 k2 k3
                          by_cases hlt : j < l.length
                          . obtain ⟨a, ha⟩ : ∃ a, l[j]? = some a := ⟨_, List.getElem?_eq_getElem hlt⟩
                            have hbw : Below w.heap.size w wr := HBW.out.trans ((HB2.out.trans (HB.out.mono HB2.out.size)).mono HBW.out.size)
                            obtain ⟨pj, cj, Sj, hSj, -⟩ := (hargs j a ha).inv
                            have hsub := HIH.out j a ha a k (d + 1) wr rfl (hname j a ha) hk (by omega) hbw
                            rw [hSj] at hsub
                            have hdr : Dt k (d + 1) (l.drop j) = match vis k (d + 1) a with | none => none | some m => Dt m (d + 1) (l.drop (j + 1)) := by
                              obtain ⟨hj', rfl⟩ := List.getElem?_eq_some_iff.1 ha
                              rw [List.drop_eq_getElem_cons hj', Dt]
                              all_goals (cases vis k (d + 1) l[j] <;> rfl)
                            have hle := fun m => Mm k (d + 1) m a
                            obtain ⟨b, o, rfl, hc⟩ := hfit (by rintro rfl; simp at hlt)
                            obtain ⟨r0, r1, r2, r3⟩ := hc j a ha
                            have s0 := Ae hbw r0
                            have s1 := Ae hbw r1
                            have s2 := Ae hbw r2
                            have s3 := Ae hbw r3
                            rw [hSj] at s3
                            obtain ⟨V, hV⟩ : ∃ V, vis k (d + 1) a = V := ⟨_, rfl⟩
                            rw [hV] at hsub hdr
                            have HLE := Lib.hid (fun m h => hle m (hV.trans h))
                            have HDR := Lib.hid hdr
                            have HSUB := Lib.hid hsub
                            obtain ⟨oa, na, nma, la⟩ := a
                            simp only [Ex.op, Ex.n, Ex.name, Ex.args] at s0 s1 s2 s3
                            clear r0 r1 r2 r3 hc ha hSj hsub hdr hle hV hbw
                            go_wp2_with fail
                            refine HSUB.out.mono ?_
                            rintro e w5 ⟨rfl, hb5⟩
                            have HB5 := Lib.hid (HB.out.trans (hb5.mono HB.out.size))
                            have q5 := Ae hb5 q3
                            clear hb5 q3 s0 s1 s2 s3 HB
                            cases V with
                            | none =>
                              simp only [L9]
                              go_wp2
                              go_ret
                              have h := HVJ.out
                              rw [HDR.out] at h
                              exact ⟨by rw [<- h]; rfl, HB2.out.trans (HB5.out.mono HB2.out.size)⟩
                            | some m =>
                              have hm := HLE.out m rfl
                              simp only [L9]
                              go_wp2
                              go_roundw
                              case rel => exact ⟨j + 1, m, by omega, by omega, rfl, by go_num, by have h := HVJ.out; rw [HDR.out] at h; exact h, HB5.out⟩
                              case measure => simp [intOf]; omega
                          . obtain rfl : j = l.length := by omega
                            go_wp2
                            go_ret
                            have h := HVJ.out
                            rw [List.drop_length, Dt] at h
                            exact ⟨by rw [<- h]; rfl, HB2.out.trans (HB.out.mono HB2.out.size)⟩
                      . have hx1 : (op != 1) = true := by simpa using e7
                        go_enter Tryz.func98, Tryz.ntmps98
                        go_wp2_with fail
                        rw [HW1.out]
                        refine Al (by kernel_rfl) (by kernel_rfl) ?_
                        repeat (go_big_quiet_step ((go_at_call 141; exact Calls.later_of ((B2 _ _).mono fun _ _ ⟨he, hw⟩ => ⟨by rw [he, HAR.out], by rw [<- hw]; exact Below.refl _ _⟩))))
                        refine wpQuiet_nil ?_
                        intro w2 hb2
                        have k0 := Ae hb2 HC0.out
                        have k1 := Ae hb2 HC1.out
                        have k2 := Ae hb2 HC2.out
                        have k3 := Ae hb2 HC3.out
                        have HB2 := Lib.hid (HB1.out.trans (hb2.mono HB1.out.size))
                        clear hb2
                        have HVL : Hid (vis left d (.mk op 0 nm l) = Dt (left - 1) (d + 1) l) := Lib.hid (by rw [HV.out, if_neg (by rw [HQY.out]; simp; omega)]; rfl)
                        have hl1 : (left : Int) - 1 = ((left - 1 : Nat) : Int) := by omega
                        go_wp2_with fail
                        go_loopw [1, 7] (fun c i wr => ∃ j k : Nat, j <= l.length /\ k <= 60 /\ c = .int .i64 k /\ i = .int .i64 j /\ Dt k (d + 1) (l.drop j) = vis left d (.mk op 0 nm l) /\ Below w2.heap.size w2 wr) (fun _ i _ => l.length - (intOf i).toNat)
                        case atStart => exact ⟨0, left - 1, Nat.zero_le _, by omega, by rw [<- hl1], rfl, HVL.out.symm, Below.refl _ _⟩
                        case round =>
                          obtain ⟨j, k, hj, hk, rfl, rfl, hvl, hB⟩ := hrel
                          have HVJ := Lib.hid hvl
                          have HB := Lib.hid hB
                          have q3 := Ae hB k3
                          clear hvl hB k0 k1 k2 k3
                          by_cases hlt : j < l.length
                          . obtain ⟨a, ha⟩ : ∃ a, l[j]? = some a := ⟨_, List.getElem?_eq_getElem hlt⟩
                            have hbw : Below w.heap.size w wr := HBW.out.trans ((HB2.out.trans (HB.out.mono HB2.out.size)).mono HBW.out.size)
                            obtain ⟨pj, cj, Sj, hSj, -⟩ := (hargs j a ha).inv
                            have hsub := HIH.out j a ha a k (d + 1) wr rfl (hname j a ha) hk (by omega) hbw
                            rw [hSj] at hsub
                            have hdr : Dt k (d + 1) (l.drop j) = match vis k (d + 1) a with | none => none | some m => Dt m (d + 1) (l.drop (j + 1)) := by
                              obtain ⟨hj', rfl⟩ := List.getElem?_eq_some_iff.1 ha
                              rw [List.drop_eq_getElem_cons hj', Dt]
                              all_goals (cases vis k (d + 1) l[j] <;> rfl)
                            have hle := fun m => Mm k (d + 1) m a
                            obtain ⟨b, o, rfl, hc⟩ := hfit (by rintro rfl; simp at hlt)
                            obtain ⟨r0, r1, r2, r3⟩ := hc j a ha
                            have s0 := Ae hbw r0
                            have s1 := Ae hbw r1
                            have s2 := Ae hbw r2
                            have s3 := Ae hbw r3
                            rw [hSj] at s3
                            obtain ⟨V, hV⟩ : ∃ V, vis k (d + 1) a = V := ⟨_, rfl⟩
                            rw [hV] at hsub hdr
                            have HLE := Lib.hid (fun m h => hle m (hV.trans h))
                            have HDR := Lib.hid hdr
                            have HSUB := Lib.hid hsub
                            obtain ⟨oa, na, nma, la⟩ := a
                            simp only [Ex.op, Ex.n, Ex.name, Ex.args] at s0 s1 s2 s3
                            clear r0 r1 r2 r3 hc ha hSj hsub hdr hle hV hbw
                            go_wp2_with fail
                            refine HSUB.out.mono ?_
                            rintro e w5 ⟨rfl, hb5⟩
                            have HB5 := Lib.hid (HB.out.trans (hb5.mono HB.out.size))
                            have q5 := Ae hb5 q3
                            clear hb5 q3 s0 s1 s2 s3 HB
                            cases V with
                            | none =>
                              simp only [L9]
                              go_wp2
                              go_ret
                              have h := HVJ.out
                              rw [HDR.out] at h
                              exact ⟨by rw [<- h]; rfl, HB2.out.trans (HB5.out.mono HB2.out.size)⟩
                            | some m =>
                              have hm := HLE.out m rfl
                              simp only [L9]
                              go_wp2
                              go_roundw
                              case rel => exact ⟨j + 1, m, by omega, by omega, rfl, by go_num, by have h := HVJ.out; rw [HDR.out] at h; exact h, HB5.out⟩
                              case measure => simp [intOf]; omega
                          . obtain rfl : j = l.length := by omega
                            go_wp2
                            go_ret
                            have h := HVJ.out
                            rw [List.drop_length, Dt] at h
                            exact ⟨by rw [<- h]; rfl, HB2.out.trans (HB.out.mono HB2.out.size)⟩
                    . obtain rfl : op = 1 := by omega
                      have hx2 : (n != 0) = true := by simpa using e6
                      go_enter Tryz.func98, Tryz.ntmps98
                      go_wp2_with fail
                      rw [HW1.out]
                      refine Al (by kernel_rfl) (by kernel_rfl) ?_
                      repeat (go_big_quiet_step ((go_at_call 141; exact Calls.later_of ((B2 _ _).mono fun _ _ ⟨he, hw⟩ => ⟨by rw [he, HAR.out], by rw [<- hw]; exact Below.refl _ _⟩))))
                      refine wpQuiet_nil ?_
                      intro w2 hb2
                      have k0 := Ae hb2 HC0.out
                      have k1 := Ae hb2 HC1.out
                      have k2 := Ae hb2 HC2.out
                      have k3 := Ae hb2 HC3.out
                      have HB2 := Lib.hid (HB1.out.trans (hb2.mono HB1.out.size))
                      clear hb2
                      have HVL : Hid (vis left d (.mk 1 n nm l) = Dt (left - 1) (d + 1) l) := Lib.hid (by rw [HV.out, if_neg (by rw [HQY.out]; simp; omega)]; rfl)
                      have hl1 : (left : Int) - 1 = ((left - 1 : Nat) : Int) := by omega
                      go_wp2_with fail
                      go_loopw [1, 7] (fun c i wr => ∃ j k : Nat, j <= l.length /\ k <= 60 /\ c = .int .i64 k /\ i = .int .i64 j /\ Dt k (d + 1) (l.drop j) = vis left d (.mk 1 n nm l) /\ Below w2.heap.size w2 wr) (fun _ i _ => l.length - (intOf i).toNat)
                      case atStart => exact ⟨0, left - 1, Nat.zero_le _, by omega, by rw [<- hl1], rfl, HVL.out.symm, Below.refl _ _⟩
                      case round =>
                        obtain ⟨j, k, hj, hk, rfl, rfl, hvl, hB⟩ := hrel
                        have HVJ := Lib.hid hvl
                        have HB := Lib.hid hB
                        have q3 := Ae hB k3
                        clear hvl hB k0 k1 k2 k3
                        by_cases hlt : j < l.length
                        . obtain ⟨a, ha⟩ : ∃ a, l[j]? = some a := ⟨_, List.getElem?_eq_getElem hlt⟩
                          have hbw : Below w.heap.size w wr := HBW.out.trans ((HB2.out.trans (HB.out.mono HB2.out.size)).mono HBW.out.size)
                          obtain ⟨pj, cj, Sj, hSj, -⟩ := (hargs j a ha).inv
                          have hsub := HIH.out j a ha a k (d + 1) wr rfl (hname j a ha) hk (by omega) hbw
                          rw [hSj] at hsub
                          have hdr : Dt k (d + 1) (l.drop j) = match vis k (d + 1) a with | none => none | some m => Dt m (d + 1) (l.drop (j + 1)) := by
                            obtain ⟨hj', rfl⟩ := List.getElem?_eq_some_iff.1 ha
                            rw [List.drop_eq_getElem_cons hj', Dt]
                            all_goals (cases vis k (d + 1) l[j] <;> rfl)
                          have hle := fun m => Mm k (d + 1) m a
                          obtain ⟨b, o, rfl, hc⟩ := hfit (by rintro rfl; simp at hlt)
                          obtain ⟨r0, r1, r2, r3⟩ := hc j a ha
                          have s0 := Ae hbw r0
                          have s1 := Ae hbw r1
                          have s2 := Ae hbw r2
                          have s3 := Ae hbw r3
                          rw [hSj] at s3
                          obtain ⟨V, hV⟩ : ∃ V, vis k (d + 1) a = V := ⟨_, rfl⟩
                          rw [hV] at hsub hdr
                          have HLE := Lib.hid (fun m h => hle m (hV.trans h))
                          have HDR := Lib.hid hdr
                          have HSUB := Lib.hid hsub
                          obtain ⟨oa, na, nma, la⟩ := a
                          simp only [Ex.op, Ex.n, Ex.name, Ex.args] at s0 s1 s2 s3
                          clear r0 r1 r2 r3 hc ha hSj hsub hdr hle hV hbw
                          go_wp2_with fail
                          refine HSUB.out.mono ?_
                          rintro e w5 ⟨rfl, hb5⟩
                          have HB5 := Lib.hid (HB.out.trans (hb5.mono HB.out.size))
                          have q5 := Ae hb5 q3
                          clear hb5 q3 s0 s1 s2 s3 HB
                          cases V with
                          | none =>
                            simp only [L9]
                            go_wp2
                            go_ret
                            have h := HVJ.out
                            rw [HDR.out] at h
                            exact ⟨by rw [<- h]; rfl, HB2.out.trans (HB5.out.mono HB2.out.size)⟩
                          | some m =>
                            have hm := HLE.out m rfl
                            simp only [L9]
                            go_wp2
                            go_roundw
                            case rel => exact ⟨j + 1, m, by omega, by omega, rfl, by go_num, by have h := HVJ.out; rw [HDR.out] at h; exact h, HB5.out⟩
                            case measure => simp [intOf]; omega
                        . obtain rfl : j = l.length := by omega
                          go_wp2
                          go_ret
                          have h := HVJ.out
                          rw [List.drop_length, Dt] at h
                          exact ⟨by rw [<- h]; rfl, HB2.out.trans (HB.out.mono HB2.out.size)⟩
              . have HA := Lib.hid (HNO.out (by omega))
                have hx1 : (op != 1) = true := by simp; omega
                have hx2 : (n != 0) = true := by simp; omega
                go_enter Tryz.func98, Tryz.ntmps98
                go_wp2_with fail
                rw [HW1.out]
                refine Al (by kernel_rfl) (by kernel_rfl) ?_
                repeat (go_big_quiet_step ((go_at_call 141; exact Calls.later_of ((B2 _ _).mono fun _ _ ⟨he, hw⟩ => ⟨by rw [he, HAR.out], by rw [<- hw]; exact Below.refl _ _⟩))))
                refine wpQuiet_nil ?_
                intro w2 hb2
                have k0 := Ae hb2 HC0.out
                have k1 := Ae hb2 HC1.out
                have k2 := Ae hb2 HC2.out
                have k3 := Ae hb2 HC3.out
                have HB2 := Lib.hid (HB1.out.trans (hb2.mono HB1.out.size))
                clear hb2
                go_wp2
                go_ret
                exact ⟨by rw [HA.out]; rfl, HB2.out⟩
            . have hnm := Do (show 0 < nm.size by omega)
              have HA := Lib.hid (HNO.out (by omega))
              go_enter Tryz.func98, Tryz.ntmps98
              go_wp2_with fail
              rw [HW1.out]
              refine Al (by kernel_rfl) (by kernel_rfl) ?_
              repeat (go_big_quiet_step ((go_at_call 141; exact Calls.later_of ((B2 _ _).mono fun _ _ ⟨he, hw⟩ => ⟨by rw [he, HAR.out], by rw [<- hw]; exact Below.refl _ _⟩))))
              refine wpQuiet_nil ?_
              intro w2 hb2
              have k0 := Ae hb2 HC0.out
              have k1 := Ae hb2 HC1.out
              have k2 := Ae hb2 HC2.out
              have k3 := Ae hb2 HC3.out
              have HB2 := Lib.hid (HB1.out.trans (hb2.mono HB1.out.size))
              clear hb2
              go_wp2
              go_ret
              exact ⟨by rw [HA.out]; rfl, HB2.out⟩
        . have HA : Hid (L9 (vis left d (.mk op n nm l)) = -1) := Lib.hid (by rw [HV.out, if_pos (.inr (.inr (HP3.out g3)))]; rfl)
          have hd3 : (A != (l.length : Int)) = true := by simpa using g3
          go_enter Tryz.func98, Tryz.ntmps98
          go_wp2_with fail
          rw [HW1.out]
          refine Al (by kernel_rfl) (by kernel_rfl) ?_
          repeat (go_big_quiet_step ((go_at_call 141; exact Calls.later_of ((B2 _ _).mono fun _ _ ⟨he, hw⟩ => ⟨by rw [he, HAR.out], by rw [<- hw]; exact Below.refl _ _⟩))))
          refine wpQuiet_nil ?_
          intro w2 hb2
          go_wp2
          go_ret
          exact ⟨by rw [HA.out]; rfl, HB1.out.trans (hb2.mono HB1.out.size)⟩
end Go.Proofs.YtiledamgmppcmaaGreatDoor
namespace Go.Proofs.YtiledamgmppcmaaGreatDoor
open Go.RowKit
theorem Pt (v : Value) (x : Ex) (w : World) (h : Af7 w v x) :
    Calls Tryz.prog 51 #[v] w fun e w' => e = .returned (.bool (Ge x)) /\ Below w.heap.size w w' := by
  obtain ⟨s, rfl, hn, ha⟩ := h
  have hc := fun W hb => O6 ha x 60 1 W rfl hn (Nat.le_refl _) (by omega) hb
  obtain ⟨p, cap, S, rfl, hcap, hmax, -⟩ := ha.inv
  have HC := Lib.hid hc
  have HV : Hid (Ge x = (vis 60 1 x).isSome) := Lib.hid rfl
  obtain ⟨V, hV⟩ : ∃ V, vis 60 1 x = V := ⟨_, rfl⟩
  rw [hV] at HC HV
  obtain ⟨op, n, nm, l⟩ := x
  simp only [Ex.val, Ex.op, Ex.n, Ex.name, Ex.args] at HC |-
  clear ha hc hV
  go_enter Tryz.func51, Tryz.ntmps51
  go_wp2_with fail
  refine (HC.out _ ((Below.refl _ _).alloc (Nat.le_refl _) _)).mono ?_
  rintro e w1 ⟨rfl, hb1⟩
  have HB := Lib.hid (El hb1)
  clear hb1 HC
  cases V with
  | none =>
    simp only [L9]
    go_wp2
    go_ret
    exact ⟨by rw [HV.out]; rfl, HB.out⟩
  | some k =>
    simp only [L9]
    have hk : decide ((0 : Int) <= (k : Int)) = true := by simp
    go_wp2
    go_ret
    exact ⟨by rw [HV.out]; rfl, HB.out⟩
end Go.Proofs.YtiledamgmppcmaaGreatDoor
namespace Go.Proofs.YtiledamgmppcmaaGreatDoor
open Go.RowKit
theorem Lb (x : Ex) (hs : x.small) : An 51 [exP x] ⟨[], []⟩ (.ret (A7 (Ge x))) ⟨[], []⟩ := by
  refine J4 Tryz.func51 rfl rfl rfl fun K w vs _ hA => ?_
  simp only [Bm] at hA
  obtain ⟨u, us, rfl, hr, rfl⟩ := hA
  exact Pt u x w (Abt hs hr)
end Go.Proofs.YtiledamgmppcmaaGreatDoor
namespace Go.Proofs.YtiledamgmppcmaaGreatDoor
open Go.RowKit
def V3 (k : IntKind) (a b : Int) : Int := k.wrap (BitVec.ofInt k.bits a &&& BitVec.ofInt k.bits b).toNat
section
variable {P : Program} {o : Oper} {F : Nat -> PV} {S : PS} {ty yt : TypeId} {x y : Operand}
theorem T3 {k : IntKind} {a b : Int} (ho : o.op = .binOp .and ty x y yt) (hx : evP F x = .d (.v (.int k a))) (hy : evP F y = .d (.v (.int k b))) : OpS P o F S (.d (.v (.int k (V3 k a b)))) S :=
  E6 ho hx hy rfl fun w => by simp [G6, binOp, Op.intBits, V3]
theorem Nq {t : TypeId} {I : TyI} {n : Nat} {z : Value} {kx ky : IntKind} (ho : o.op = .makeSlice t x y) (hI : TyI.of P t = some I) (hk : I.kind = 2) (hek : I.ek = 1) (hez : I.ez = [z]) (hz1 : z.oneCell' = true) (hx : evP F x = .d (.v (.int kx n))) (hy : evP F y = .d (.v (.int ky n)))
    (hn : I.eb * n <= 281474976710656) (h63 : n <= 9223372036854775807) : OpS P o F S (.d (.sl 1 (List.replicate n [.v z]))) S :=
  OpS.val fun K w ρ hInv h => by
    have h1 := h x (by simp [ho, Op.operands])
    have h2 := h y (by simp [ho, Op.operands])
    rw [hx] at h1
    rw [hy] at h2
    have h1 := Ej h1
    have h2 := Ej h2
    obtain ⟨i, d, zz, hi, hu, hz, _, hzz, hd⟩ := TyI.inv hI
    rw [hk] at hd; simp at hd
    obtain ⟨rfl, ie, hie, ze, hze, hzs, hek2, heb, hez2⟩ := hd
    have hsz : ie.size = 1 := by rw [<- hek]; first | exact hek2 | exact hek2.symm
    have hcl : ze.cells.toList = [z] := by rw [<- hez]; first | exact hez2.1 | exact hez2.1.symm
    have hrun := run_make (P := P) w t I.elem ie ze hu hie hze kx ky n n (by omega) (Int.le_refl _) (by have hb : ie.bytes = I.eb := (by first | exact heb | exact heb.symm); rw [hb]; omega) (by omega)
    simp only [Int.toNat_natCast, hsz, Nat.mul_one] at hrun
    obtain ⟨g1, g2⟩ := hInv.below (w' := w.alloc (.cells (madeCells ze.cells n) I.elem)) ((Below.refl _ _).alloc (Nat.le_refl _) _)
    refine ⟨_, _, K, by simp only [execOp, ho, h1, h2, Sem.run_bind, hrun]; rfl, g2, g1, ?_⟩
    simp only [Rep, Ef, List.length_replicate]
    refine ⟨_, n, rfl, Nat.le_refl _, h63, fun _ => ⟨w.heap.size, 0, rfl, Rh hInv (by simp) _, Fx.2 ⟨fun e he => by rw [List.eq_of_mem_replicate he]; rfl, ?_⟩⟩⟩
    have e1 : (List.replicate n [DV.v z]).flatten = List.replicate n (.v z) := by simp
    rw [e1]
    refine Io On ?_
    rw [U8 hcl n, List.map_replicate]
    exact Tb hz1 n
end
section
variable {N : Nat} {ops : Array Oper} {rest : List Oper} {o : Oper} {F : Nat -> PV} {S : PS} {q : WRes -> Prop}
theorem Apb {k : IntKind} {a b : Int} {ty yt : TypeId} {x y : Operand} (hg : Am ops F o = some true) (ho : o.op = .binOp .and ty x y yt) (hx : evP F x = .d (.v (.int k a))) (hy : evP F y = .d (.v (.int k b)))
    (kk : WK Tryz.prog N ops rest (Ch N o.dst (.d (.v (.int k (V3 k a b)))) F) S q) : WK Tryz.prog N ops (o :: rest) F S q := Kb hg (T3 ho hx hy) kk
theorem Ali {t : TypeId} {x y : Operand} {l : List PV} {kd : IntKind} {j : Int} {p : PV} (hg : Am ops F o = some true) (ho : o.op = .index t x y) (hk : (Bq t && Nat.beq (tyi t).kind 3 && Bq (tyi t).elem && !(tyi (tyi t).elem).isRow) = true) (hx : evP F x = .agg l) (hy : evP F y = .d (.v (.int kd j))) (h0 : 0 <= j) (h1 : j < (tyi t).len)
    (hp : l[j.toNat * (tyi (tyi t).elem).size]? = some p) (kk : WK Tryz.prog N ops rest (Ch N o.dst p F) S q) : WK Tryz.prog N ops (o :: rest) F S q := by
  simp only [Bool.and_eq_true, Bool.not_eq_true'] at hk
  exact Kb hg (J7 ho (Gl t hk.1.1.1) (Nat.eq_of_beq_eq_true hk.1.1.2) (Gl _ hk.1.2) hx hy h0 h1 (.inr ⟨hk.2, hp⟩)) kk
theorem Ah4 {t : TypeId} {x y : Operand} {n : Nat} {kx ky : IntKind} (z : Value) (hg : Am ops F o = some true) (ho : o.op = .makeSlice t x y) (hk : (Bq t && Nat.beq (tyi t).kind 2 && Nat.beq (tyi t).ek 1) = true) (hez : (tyi t).ez = [z]) (hz1 : z.oneCell' = true) (hx : evP F x = .d (.v (.int kx n))) (hy : evP F y = .d (.v (.int ky n)))
    (hn : (tyi t).eb * n <= 281474976710656) (h63 : n <= 9223372036854775807) (kk : WK Tryz.prog N ops rest (Ch N o.dst (.d (.sl 1 (List.replicate n [.v z]))) F) S q) : WK Tryz.prog N ops (o :: rest) F S q := by
  simp only [Bool.and_eq_true] at hk
  exact Kb hg (Nq ho (Gl t hk.1.1) (Nat.eq_of_beq_eq_true hk.1.2) (Nat.eq_of_beq_eq_true hk.2) hez hz1 hx hy hn h63) kk
end
@[reducible] def Co (l : List UInt8) : PV := .d (.sl 1 (l.map fun b => [.v (.int .u8 b.toNat)]))
def Aw (l : List UInt8) (a : Nat) : Int := if a < l.length /\ a < 18 then ((l.getD a 0).toNat : Int) else 0
theorem Ey (l : List UInt8) (a : Nat) : 0 <= Aw l a /\ Aw l a < 256 := by
  unfold Aw
  split
  . have := (l.getD a 0).toNat_lt
    omega
  . omega
theorem Ni {l : List UInt8} {a : Nat} (h : a < l.length) : (l.map fun b => [DV.v (.int .u8 b.toNat)])[((a : Nat) : Int).toNat]? = some [.v (.int .u8 ((l.getD a 0).toNat : Int))] := by
  simp [h, List.getD_eq_getElem?_getD]
@[reducible] def mkS (l : List UInt8) (a : Nat) : PS := ⟨[[Co l, Ai a]], []⟩
theorem No (l : List UInt8) (a : Nat) (ha : a <= 1000000) : An 108 [.ptr 0 0] (mkS l a) (.ret (Ai (Aw l a))) (mkS l (a + 1)) := by
  refine Af Tryz.func108 rfl rfl (Nat.le_of_ble_eq_true rfl) rfl (Nat.le_refl _) ?_
  repeat' (first | refine rl0 ?_ | refine rs0 (fun h => ?_) (fun h => ?_) | fail)
  . rw [show Aw l a = 0 from if_neg (by simp at h; omega)]
  . rename_i g
    rw [show Aw l a = 0 from if_neg (by simp at g h; omega)]
  . rename_i g
    have hc : a < l.length /\ a < 18 := by simp at g h; omega
    refine Ib [.v (.int .u8 ((l.getD a 0).toNat : Int))] rfl rfl rfl rfl rfl (by rw [show ((a : Int) + 1 - 1).toNat = ((a : Nat) : Int).toNat from by omega]; exact Ni hc.1) (by omega) ?_
    have hlt := (l.getD a 0).toNat_lt
    repeat' (first | refine rl0 ?_ | refine rs0 (fun h => ?_) (fun h => ?_) | fail)
    refine wan rfl rfl ⟨by show (-9223372036854775808 : Int) <= _; omega, by show _ <= (9223372036854775807 : Int); omega⟩ ?_
    repeat' (first | refine rl0 ?_ | refine rs0 (fun h => ?_) (fun h => ?_) | fail)
    rw [show Aw l a = ((l.getD a 0).toNat : Int) from if_pos hc]
    rfl
end Go.Proofs.YtiledamgmppcmaaGreatDoor
namespace Go.Proofs.YtiledamgmppcmaaGreatDoor
open Go.RowKit
def Aof : ByteArray := ⟨#[120, 121, 122]⟩
def Dp (want n : Int) : Bool := decide (want = 1) || (decide (want = 0) && decide (V3 .i64 n 128 = 0))
def Ag6 : List Int := [0, 1, 2, 3, 5, 9999, 7, 1]
def C2 (num : Bool) (n : Int) : Ex :=
  if num = false then .mk (3 + n / 16 % 2) 0 ⟨#[]⟩ [] else if 1 < n % 16 then .mk 2 0 (Aof.extract (n / 16 % 3).toNat (n / 16 % 3 + 1).toNat) [] else .mk 1 (Ag6.getD (n / 16 % 8).toNat 0) ⟨#[]⟩ []
def A8 (num : Bool) (n : Int) : Int × List Int :=
  if num = false then (if n % 16 < 10 then (11 + n / 16 % 6, [1, 1]) else if n % 16 < 11 then (6, [2]) else if n % 16 < 15 then (17 + n / 16 % 2, [2, 2]) else (19, [2, 2, 2]))
  else (if n % 16 < 7 then (5, [1]) else if n % 16 < 14 then (7 + n / 16 % 4, [1, 1]) else (19, [2, 1, 1]))
def Be (g : Int -> Nat -> Ex × Nat) : List Int -> Nat -> List Ex × Nat
  | [], a => ([], a)
  | t :: ts, a => ((g t a).1 :: (Be g ts (g t a).2).1, (Be g ts (g t a).2).2)
def Fq (want : Int) (ts : List Int) : List Int := if want = 0 then List.replicate ts.length 0 else ts
def Gd (l : List UInt8) : Nat -> Int -> Nat -> Ex × Nat
  | 0, want, a => (C2 (Dp want (Aw l a)) (Aw l a), a + 1)
  | f + 1, want, a => if Aw l a % 16 < 5 then (C2 (Dp want (Aw l a)) (Aw l a), a + 1) else
      (.mk (A8 (Dp want (Aw l a)) (Aw l a)).1 0 ⟨#[]⟩ (Be (Gd l f) (Fq want (A8 (Dp want (Aw l a)) (Aw l a)).2) (a + 1)).1, (Be (Gd l f) (Fq want (A8 (Dp want (Aw l a)) (Aw l a)).2) (a + 1)).2)
theorem Is (num : Bool) (n : Int) : 1 <= (A8 num n).2.length /\ (A8 num n).2.length <= 3 := by
  unfold A8
  repeat' split
  all_goals simp
theorem F8 (want : Int) (ts : List Int) : (Fq want ts).length = ts.length := by unfold Fq; split <;> simp
theorem Hu {g : Int -> Nat -> Ex × Nat} {b : Nat} (hg : ∀ t a, (g t a).2 <= a + b) : ∀ (ts : List Int) (a : Nat), (Be g ts a).2 <= a + ts.length * b
  | [], a => by simp [Be]
  | t :: ts, a => by
    have h1 := hg t a
    have h2 := Hu hg ts (g t a).2
    simp only [Be, List.length_cons, Nat.succ_mul]
    omega
theorem Mo (l : List UInt8) : ∀ (f : Nat) (want : Int) (a : Nat), (Gd l f want a).2 <= a + 4 ^ f
  | 0, want, a => by simp [Gd]
  | f + 1, want, a => by
    have hp : 1 <= 4 ^ f := Nat.pos_of_ne_zero (by simp)
    rw [Gd]
    split
    . simp only [Nat.pow_succ]; omega
    . have h1 := Hu (Mo l f) (Fq want (A8 (Dp want (Aw l a)) (Aw l a)).2) (a + 1)
      have h2 := Is (Dp want (Aw l a)) (Aw l a)
      rw [F8] at h1
      have h3 : (A8 (Dp want (Aw l a)) (Aw l a)).2.length * 4 ^ f <= 3 * 4 ^ f := Nat.mul_le_mul_right _ h2.2
      simp only [Nat.pow_succ]; omega
theorem Ha {g : Int -> Nat -> Ex × Nat} : ∀ {ts : List Int} {a i : Nat} {t : Int}, ts[i]? = some t -> Be g (ts.take (i + 1)) a = ((Be g (ts.take i) a).1 ++ [(g t (Be g (ts.take i) a).2).1], (g t (Be g (ts.take i) a).2).2)
  | [], a, i, t, h => by simp at h
  | s :: ts, a, 0, t, h => by simp at h; subst h; simp [Be]
  | s :: ts, a, i + 1, t, h => by
    simp only [List.getElem?_cons_succ] at h
    have := Ha (g := g) (a := (g s a).2) h
    simp only [List.take_succ_cons, Be, this, List.cons_append]
theorem Fu {g : Int -> Nat -> Ex × Nat} : ∀ (ts : List Int) (a : Nat), (Be g ts a).1.length = ts.length
  | [], a => rfl
  | t :: ts, a => by simp [Be, Fu ts]
theorem Qf {l : List Int} {i : Nat} {x : Int} (h : l[i]? = some x) : (l.map fun n => [DV.v (.int .i64 n)])[((i : Nat) : Int).toNat]? = some [.v (.int .i64 x)] := by simp [h]
theorem Hr (l r : List Ex) : Eb (l ++ r) = Eb l ++ Eb r := by simp [L5]
set_option maxHeartbeats 1000000 in
theorem Ty (l : List UInt8) (g : Int -> Nat -> Ex × Nat) (b : Nat) (deep : Int) (hd : 0 <= deep /\ deep <= 100) (hg : ∀ t a, (g t a).2 <= a + b) (hone : ∀ (t : Int) (a : Nat), a + b <= 1000000 -> An 66 [.ptr 0 0, Ai t, Ai (deep + 1)] (mkS l a) (.ret (exP (g t a).1)) (mkS l (g t a).2)) (ts : List Int) (hts : ts.length <= 3) (a : Nat) (ha : a + 3 * b <= 1000000) :
    An 147 [.ptr 0 0, Ai deep, Fj ts] (mkS l a) (.ret (.d (.sl 4 (Eb (Be g ts a).1)))) (mkS l (Be g ts a).2) := by
  have raw : An 147 [.ptr 0 0, Ai deep, Fj ts] (mkS l a) (.ret (.hd 0 ts.length)) ⟨[[Co l, Ai (Be g ts a).2]], [⟨ts.length, 4, Eb (Be g ts a).1, 24⟩]⟩ := by
    refine Af Tryz.func147 rfl rfl (Nat.le_of_ble_eq_true rfl) rfl (by simp) ?_
    repeat' (first | refine rl0 ?_ | refine rs0 (fun h => ?_) (fun h => ?_) | fail)
    refine T4 7 4 24 rfl ?_
    refine Bt (ι := Nat) (ok := fun i => i <= ts.length) (L := fun i => [(0, .ptr 0 0), (1, Ai deep), (7, .hd 0 i), (10, Fj ts), (11, Ai (ts.map fun n => [DV.v (.int .i64 n)]).length), (12, Ai i)]) (Sx := fun i => ⟨[[Co l, Ai (Be g (ts.take i) a).2]], [⟨i, 4, Eb (Be g (ts.take i) a).1, 24⟩]⟩) (μ := fun i => ts.length - i) 0 (Nat.zero_le _) (by repeat (first | exact Ag | refine Ac rfl ?_)) rfl ?_
    rintro i hi
    repeat' (first | refine rl0 ?_ | refine rs0 (fun h => ?_) (fun h => ?_) | fail)
    . have hlt : i < ts.length := by simpa using h
      obtain ⟨t, ht⟩ : ∃ t, ts[i]? = some t := ⟨_, List.getElem?_eq_getElem hlt⟩
      have hstep := Ha (g := g) (a := a) ht
      have hle := Hu hg (ts.take i) a
      rw [List.length_take, Nat.min_eq_left hi] at hle
      have hib : i * b <= 2 * b := Nat.mul_le_mul_right _ (by omega)
      have hll := Fu (g := g) (ts.take i) a
      rw [List.length_take, Nat.min_eq_left hi] at hll
      refine wix _ rfl rfl rfl rfl rfl (Qf ht) (by omega) ?_
      repeat' (first | refine rl0 ?_ | refine rs0 (fun h => ?_) (fun h => ?_) | fail)
      refine wcb (id := 0) (hone t _ (by omega)) rfl rfl rfl rfl rfl rfl rfl rfl (by repeat (first | exact Ad | refine Aa (Ab _) ?_)) rfl ?_
      generalize hx : g t (Be g (ts.take i) a).2 = x at hstep |-
      obtain ⟨x, a2⟩ := x
      repeat' (first | refine rl0 ?_ | refine rs0 (fun h => ?_) (fun h => ?_) | fail)
      refine Alh (news := [[.v (.int .i64 x.op), .v (.int .i64 x.n), .v (.string x.name), .sl 4 (Eb x.args)]]) (S' := ⟨[[Co l, Ai a2]], [⟨i + 1, 4, Eb (Be g (ts.take i) a).1 ++ [[.v (.int .i64 x.op), .v (.int .i64 x.n), .v (.string x.name), .sl 4 (Eb x.args)]], 24⟩]⟩) rfl rfl rfl rfl rfl rfl ?_ ?_ rfl ?_
      . rw [A6, hll]; show (i + 1) * 56 <= _; omega
      . rw [A6, hll]; show i + 1 <= _; omega
      repeat' (first | refine rl0 ?_ | refine rs0 (fun h => ?_) (fun h => ?_) | fail)
      refine ⟨i + 1, by omega, by omega, (by repeat (first | exact Ag | refine Ac rfl ?_)), ?_⟩
      rw [hstep, Hr]
      simp [Eb]
      cases x; rfl
    . obtain rfl : i = ts.length := by have : ¬ (i < ts.length) := by simpa using h
                                       omega
      rw [List.take_length]
      exact fin rfl rfl (.inr rfl) rfl rfl rfl rfl
  exact Ki (S' := ⟨[[Co l, Ai (Be g ts a).2]], [⟨ts.length, 4, Eb (Be g ts a).1, 24⟩]⟩) 1 0 (A4 raw (Q5 (Jh rfl))) (Nat.le_refl _) (Nat.le_refl _) rfl rfl
set_option maxHeartbeats 1000000 in
theorem Zr (l : List UInt8) (g : Int -> Nat -> Ex × Nat) (b : Nat) (deep op : Int) (want : Int) (hd : 0 <= deep /\ deep <= 100) (hg : ∀ t a, (g t a).2 <= a + b) (hone : ∀ (t : Int) (a : Nat), a + b <= 1000000 -> An 66 [.ptr 0 0, Ai t, Ai (deep + 1)] (mkS l a) (.ret (exP (g t a).1)) (mkS l (g t a).2)) (ts : List Int) (hts : ts.length <= 3) (a : Nat) (ha : a + 3 * b <= 1000000) :
    An 109 [.ptr 0 0, A7 (decide (want = 0)), Ai deep, Ai op, Fj ts] (mkS l a) (.ret (exP (.mk op 0 ⟨#[]⟩ (Be g (Fq want ts) a).1))) (mkS l (Be g (Fq want ts) a).2) := by
  have hL := Ty l g b deep hd hg hone (Fq want ts) (by rw [F8]; exact hts) a ha
  unfold Fq at hL |-
  refine Af Tryz.func109 rfl rfl (Nat.le_of_ble_eq_true rfl) rfl (Nat.le_refl _) ?_
  repeat' (first | refine rl0 ?_ | refine rs0 (fun h => ?_) (fun h => ?_) | fail)
  . have hw : want = 0 := by simpa using h
    rw [if_pos hw] at hL |-
    rw [show Fj (List.replicate ts.length 0) = .d (.sl 1 (List.replicate ts.length [.v (.int .i64 0)])) from by simp] at hL
    refine Ah4 (n := (ts.map fun n => [DV.v (.int .i64 n)]).length) (kx := .i64) (ky := .i64) (.int .i64 0) rfl rfl rfl rfl rfl rfl rfl (by rw [List.length_map]; show 8 * _ <= _; omega) (by rw [List.length_map]; omega) ?_
    rw [List.length_map]
    repeat' (first | refine rl0 ?_ | refine rs0 (fun h => ?_) (fun h => ?_) | fail)
    refine wcb (id := 0) hL rfl rfl rfl rfl rfl rfl rfl rfl (by repeat (first | exact Ad | refine Aa (Ab _) ?_)) rfl ?_
    repeat' (first | refine rl0 ?_ | refine rs0 (fun h => ?_) (fun h => ?_) | fail)
    rfl
  . have hw : want ≠ 0 := by simpa using h
    rw [if_neg hw] at hL |-
    refine wcb (id := 0) hL rfl rfl rfl rfl rfl rfl rfl rfl (by repeat (first | exact Ad | refine Aa (Ab _) ?_)) rfl ?_
    repeat' (first | refine rl0 ?_ | refine rs0 (fun h => ?_) (fun h => ?_) | fail)
    rfl
end Go.Proofs.YtiledamgmppcmaaGreatDoor
namespace Go.Proofs.YtiledamgmppcmaaGreatDoor
open Go.RowKit
theorem tab8 {n : Int} (h0 : 0 <= n) (h1 : n < 256) : (([Ai 0, Ai 1, Ai 2, Ai 3, Ai 5, Ai 9999, Ai 7, Ai 1] : List PV)[(n / 16 % 8).toNat * 1]?) = some (Ai (Ag6.getD (n / 16 % 8).toNat 0)) := by
  have : n / 16 % 8 = 0 \/ n / 16 % 8 = 1 \/ n / 16 % 8 = 2 \/ n / 16 % 8 = 3 \/ n / 16 % 8 = 4 \/ n / 16 % 8 = 5 \/ n / 16 % 8 = 6 \/ n / 16 % 8 = 7 := by omega
  rcases this with h | h | h | h | h | h | h | h <;> rw [h] <;> rfl
set_option maxHeartbeats 2000000 in
theorem Kw (l : List UInt8) (want deep : Int) (a : Nat) (ha : a <= 1000000) (hd : 0 <= deep /\ deep <= 100) (hl : 10 <= deep \/ Aw l a % 16 < 5) : An 66 [.ptr 0 0, Ai want, Ai deep] (mkS l a) (.ret (exP (C2 (Dp want (Aw l a)) (Aw l a)))) (mkS l (a + 1)) := by
  have hn := Ey l a
  have raw : An 66 [.ptr 0 0, Ai want, Ai deep] (mkS l a) (.ret (.agg [Ai (C2 (Dp want (Aw l a)) (Aw l a)).op, Ai (C2 (Dp want (Aw l a)) (Aw l a)).n, By (C2 (Dp want (Aw l a)) (Aw l a)).name, .d (.v (.slice none 0 0))])) (mkS l (a + 1)) := by
    refine Af Tryz.func66 rfl rfl (Nat.le_of_ble_eq_true rfl) rfl (Nat.le_refl _) ?_
    repeat' (first | refine rl0 ?_ | refine rs0 (fun h => ?_) (fun h => ?_) | fail)
    refine wcb (id := 0) (No l a ha) rfl rfl rfl rfl rfl rfl rfl rfl (by repeat (first | exact Ad | refine Aa (Ab _) ?_)) rfl ?_
    generalize Aw l a = n at *
    refine wst rfl rfl trivial ?_
    refine Ca ?_
    refine C5 ?_
    refine Ln (ι := Unit) (fun _ => True) (fun _ => [(0, .ptr 0 0), (1, Ai want), (2, Ai deep), (6, .ptr 1 0), (7, Ai n), (8, A7 (Dp want n))]) (fun _ => ⟨[[Co l, Ai ((a + 1 : Nat) : Int)], [Ai 0, Ai 0, By ⟨#[]⟩, .d (.v (.slice none 0 0))]], []⟩) ?_ (fun _ _ => ?_)
    . refine Bx ?_
      refine wst rfl rfl trivial ?_
      refine wst rfl rfl trivial ?_
      refine wst rfl rfl trivial ?_
      refine H9 rfl rfl rfl ⟨rfl⟩ (fun h => ?_) (fun h => ?_)
      . repeat refine E7 rfl ?_
        refine wst rfl rfl trivial ?_
        refine wst rfl rfl trivial ?_
        refine Ca ?_
        refine ⟨(), trivial, ?_, rfl⟩
        have e : Dp want n = true := by unfold Dp; rw [h]; rfl
        rw [e]
        exact (by repeat (first | exact Ag | refine Ac rfl ?_))
      . refine wst rfl rfl trivial ?_
        refine wst rfl rfl trivial ?_
        refine wst rfl rfl trivial ?_
        refine H9 rfl rfl rfl ⟨rfl⟩ (fun h2 => ?_) (fun h2 => ?_)
        . refine wst rfl rfl trivial ?_
          refine Apb rfl rfl rfl rfl ?_
          refine wst rfl rfl trivial ?_
          refine wst rfl rfl trivial ?_
          refine wst rfl rfl trivial ?_
          refine wst rfl rfl trivial ?_
          refine Ca ?_
          refine ⟨(), trivial, ?_, rfl⟩
          have e : Dp want n = decide (V3 .i64 n 128 = 0) := by unfold Dp; rw [h, h2]; rfl
          rw [e]
          exact (by repeat (first | exact Ag | refine Ac rfl ?_))
        . repeat refine E7 rfl ?_
          refine wst rfl rfl trivial ?_
          refine wst rfl rfl trivial ?_
          refine wst rfl rfl trivial ?_
          refine Ca ?_
          refine ⟨(), trivial, ?_, rfl⟩
          have e : Dp want n = false := by unfold Dp; rw [h, h2]; rfl
          rw [e]
          exact (by repeat (first | exact Ag | refine Ac rfl ?_))
    generalize Dp want n = b
    refine C5 ?_
    refine C5 ?_
    refine Ln (ι := Unit) (fun _ => True) (fun _ => [(0, .ptr 0 0), (1, Ai want), (2, Ai deep), (6, .ptr 1 0), (7, Ai n), (8, A7 b), (29, A7 true)]) (fun _ => ⟨[[Co l, Ai ((a + 1 : Nat) : Int)], [Ai 0, Ai 0, By ⟨#[]⟩, .d (.v (.slice none 0 0))]], []⟩) ?_ (fun _ _ => ?_)
    . refine Bx ?_
      refine wst rfl rfl trivial ?_
      refine wst rfl rfl trivial ?_
      refine wst rfl rfl trivial ?_
      refine H9 rfl rfl rfl ⟨rfl⟩ (fun h => ?_) (fun h => ?_)
      . repeat refine E7 rfl ?_
        refine wst rfl rfl trivial ?_
        refine Ca ?_
        exact ⟨(), trivial, (by repeat (first | exact Ag | refine Ac rfl ?_)), rfl⟩
      . refine wst rfl rfl trivial ?_
        refine wst rfl rfl ⟨by omega, by omega⟩ ?_
        refine wst rfl rfl trivial ?_
        refine wst rfl rfl trivial ?_
        refine Ca ?_
        refine ⟨(), trivial, ?_, rfl⟩
        have e : decide (n % 16 < 5) = true := by simp at h |-; omega
        exact Ac rfl (Ac rfl (Ac rfl (Ac rfl (Ac rfl (Ac rfl (Ac (show PV.d (.v (.bool (decide (n % 16 < 5)))) = _ by rw [e]) Ag))))))
    cases b
    . repeat' (first | refine rl0 ?_ | refine rs0 (fun h => ?_) (fun h => ?_) | fail)
      rw [show C2 false n = .mk (3 + n / 16 % 2) 0 ⟨#[]⟩ [] from rfl]
      rfl
    . repeat' (first | refine rl0 ?_ | refine rs0 (fun h => ?_) (fun h => ?_) | fail)
      . have e : C2 true n = .mk 2 0 (Aof.extract (n / 16 % 3).toNat (n / 16 % 3 + 1).toNat) [] := by unfold C2; rw [if_neg (by simp), if_pos (by simpa using h)]
        refine wst rfl rfl ⟨by omega, by omega, by show _ <= (3 : Int); omega⟩ ?_
        repeat' (first | refine rl0 ?_ | refine rs0 (fun h => ?_) (fun h => ?_) | fail)
        rw [e]
        rfl
      . have e : C2 true n = .mk 1 (Ag6.getD (n / 16 % 8).toNat 0) ⟨#[]⟩ [] := by unfold C2; rw [if_neg (by simp), if_neg (by simpa using h)]
        refine Ali rfl rfl rfl rfl rfl (by omega) (by show _ < 8; omega) (tab8 hn.1 hn.2) ?_
        repeat' (first | refine rl0 ?_ | refine rs0 (fun h => ?_) (fun h => ?_) | fail)
        rw [e]
        rfl
  exact A4 raw (A9 (Aa (Ab _) (Aa (Ab _) (Aa (Ab _) (Aa (by
    have e : Eb (C2 (Dp want (Aw l a)) (Aw l a)).args = [] := by
      unfold C2
      split
      . rfl
      . split <;> rfl
    rw [e]; exact Bo) Ad)))))
set_option maxHeartbeats 4000000 in
theorem Rq (l : List UInt8) : ∀ (f : Nat), f <= 9 -> ∀ (want : Int) (a : Nat), a + 4 ^ f <= 1000000 -> An 66 [.ptr 0 0, Ai want, Ai (10 - f)] (mkS l a) (.ret (exP (Gd l f want a).1)) (mkS l (Gd l f want a).2)
  | 0, _, want, a, ha => by
    rw [Gd]
    exact Kw l want _ a (by simp at ha; omega) ⟨by simp, by simp⟩ (.inl (by simp))
  | f + 1, hf, want, a, ha => by
    have hp : 1 <= 4 ^ f := Nat.pos_of_ne_zero (by simp)
    have hpow : 4 ^ (f + 1) = 4 * 4 ^ f := by rw [Nat.pow_succ]; omega
    rw [Gd]
    by_cases hlf : Aw l a % 16 < 5
    . rw [if_pos hlf]
      exact Kw l want _ a (by omega) ⟨by omega, by omega⟩ (.inr hlf)
    rw [if_neg hlf]
    have hdeep : (10 : Int) - ((f + 1 : Nat) : Int) + 1 = 10 - (f : Nat) := by omega
    have hsub := fun (op : Int) (ts : List Int) (hts : ts.length <= 3) => Zr l (Gd l f) (4 ^ f) (10 - ((f + 1 : Nat) : Int)) op want ⟨by omega, by omega⟩ (Mo l f) (fun t a' h' => by rw [hdeep]; exact Rq l f (by omega) t a' h') ts hts (a + 1) (by omega)
    have hn := Ey l a
    have hnx := No l a (by omega)
    generalize hdp : (10 : Int) - ((f + 1 : Nat) : Int) = deep at *
    have hd : 0 <= deep /\ deep < 10 := by omega
    refine Af Tryz.func66 rfl rfl (Nat.le_of_ble_eq_true rfl) rfl (Nat.le_refl _) ?_
    repeat' (first | refine rl0 ?_ | refine rs0 (fun h => ?_) (fun h => ?_) | fail)
    refine wcb (id := 0) hnx rfl rfl rfl rfl rfl rfl rfl rfl (by repeat (first | exact Ad | refine Aa (Ab _) ?_)) rfl ?_
    generalize Aw l a = n at *
    refine wst rfl rfl trivial ?_
    refine Ca ?_
    refine C5 ?_
    refine Ln (ι := Unit) (fun _ => True) (fun _ => [(0, .ptr 0 0), (1, Ai want), (2, Ai deep), (6, .ptr 1 0), (7, Ai n), (8, A7 (Dp want n))]) (fun _ => ⟨[[Co l, Ai ((a + 1 : Nat) : Int)], [Ai 0, Ai 0, By ⟨#[]⟩, .d (.v (.slice none 0 0))]], []⟩) ?_ (fun _ _ => ?_)
    . refine Bx ?_
      refine wst rfl rfl trivial ?_
      refine wst rfl rfl trivial ?_
      refine wst rfl rfl trivial ?_
      refine H9 rfl rfl rfl ⟨rfl⟩ (fun h => ?_) (fun h => ?_)
      . repeat refine E7 rfl ?_
        refine wst rfl rfl trivial ?_
        refine wst rfl rfl trivial ?_
        refine Ca ?_
        refine ⟨(), trivial, ?_, rfl⟩
        have e : Dp want n = true := by unfold Dp; rw [h]; rfl
        rw [e]
        exact (by repeat (first | exact Ag | refine Ac rfl ?_))
      . refine wst rfl rfl trivial ?_
        refine wst rfl rfl trivial ?_
        refine wst rfl rfl trivial ?_
        refine H9 rfl rfl rfl ⟨rfl⟩ (fun h2 => ?_) (fun h2 => ?_)
        . refine wst rfl rfl trivial ?_
          refine Apb rfl rfl rfl rfl ?_
          refine wst rfl rfl trivial ?_
          refine wst rfl rfl trivial ?_
          refine wst rfl rfl trivial ?_
          refine wst rfl rfl trivial ?_
          refine Ca ?_
          refine ⟨(), trivial, ?_, rfl⟩
          have e : Dp want n = decide (V3 .i64 n 128 = 0) := by unfold Dp; rw [h, h2]; rfl
          rw [e]
          exact (by repeat (first | exact Ag | refine Ac rfl ?_))
        . repeat refine E7 rfl ?_
          refine wst rfl rfl trivial ?_
          refine wst rfl rfl trivial ?_
          refine wst rfl rfl trivial ?_
          refine Ca ?_
          refine ⟨(), trivial, ?_, rfl⟩
          have e : Dp want n = false := by unfold Dp; rw [h, h2]; rfl
          rw [e]
          exact (by repeat (first | exact Ag | refine Ac rfl ?_))
    generalize Dp want n = b
    refine C5 ?_
    refine C5 ?_
    refine Ln (ι := Unit) (fun _ => True) (fun _ => [(0, .ptr 0 0), (1, Ai want), (2, Ai deep), (6, .ptr 1 0), (7, Ai n), (8, A7 b), (29, A7 false)]) (fun _ => ⟨[[Co l, Ai ((a + 1 : Nat) : Int)], [Ai 0, Ai 0, By ⟨#[]⟩, .d (.v (.slice none 0 0))]], []⟩) ?_ (fun _ _ => ?_)
    . refine Bx ?_
      refine wst rfl rfl trivial ?_
      refine wst rfl rfl trivial ?_
      refine wst rfl rfl trivial ?_
      refine H9 rfl rfl rfl ⟨rfl⟩ (fun h => ?_) (fun h => ?_)
      . exfalso; simp at h; omega
      . refine wst rfl rfl trivial ?_
        refine wst rfl rfl ⟨by omega, by omega⟩ ?_
        refine wst rfl rfl trivial ?_
        refine wst rfl rfl trivial ?_
        refine Ca ?_
        refine ⟨(), trivial, ?_, rfl⟩
        have e : decide (n % 16 < 5) = false := by simp; omega
        exact Ac rfl (Ac rfl (Ac rfl (Ac rfl (Ac rfl (Ac rfl (Ac (show PV.d (.v (.bool (decide (n % 16 < 5)))) = _ by rw [e]) Ag))))))
    cases b
    . repeat' (first | refine rl0 ?_ | refine rs0 (fun h => ?_) (fun h => ?_) | fail)
      . have e : A8 false n = (11 + n / 16 % 6, [1, 1]) := by unfold A8; rw [if_pos rfl,  if_pos (by simpa using h)]
        rw [e]
        refine wcb (id := 0) (hsub (11 + n / 16 % 6) [1, 1] (by decide)) rfl rfl rfl rfl rfl rfl rfl rfl (by repeat (first | exact Ad | refine Aa (Ab _) ?_)) rfl ?_
        repeat' (first | refine rl0 ?_ | refine rs0 (fun h => ?_) (fun h => ?_) | fail)
        rfl
      . rename_i g1
        have e : A8 false n = (6, [2]) := by unfold A8; rw [if_pos rfl, if_neg (by simpa using g1), if_pos (by simpa using h)]
        rw [e]
        refine wcb (id := 0) (hsub (6) [2] (by decide)) rfl rfl rfl rfl rfl rfl rfl rfl (by repeat (first | exact Ad | refine Aa (Ab _) ?_)) rfl ?_
        repeat' (first | refine rl0 ?_ | refine rs0 (fun h => ?_) (fun h => ?_) | fail)
        rfl
      . rename_i g1 g2
        have e : A8 false n = (17 + n / 16 % 2, [2, 2]) := by unfold A8; rw [if_pos rfl, if_neg (by simpa using g1), if_neg (by simpa using g2), if_pos (by simpa using h)]
        rw [e]
        refine wcb (id := 0) (hsub (17 + n / 16 % 2) [2, 2] (by decide)) rfl rfl rfl rfl rfl rfl rfl rfl (by repeat (first | exact Ad | refine Aa (Ab _) ?_)) rfl ?_
        repeat' (first | refine rl0 ?_ | refine rs0 (fun h => ?_) (fun h => ?_) | fail)
        rfl
      . rename_i g1 g2
        have e : A8 false n = (19, [2, 2, 2]) := by unfold A8; rw [if_pos rfl, if_neg (by simpa using g1), if_neg (by simpa using g2), if_neg (by simpa using h)]
        rw [e]
        refine wcb (id := 0) (hsub (19) [2, 2, 2] (by decide)) rfl rfl rfl rfl rfl rfl rfl rfl (by repeat (first | exact Ad | refine Aa (Ab _) ?_)) rfl ?_
        repeat' (first | refine rl0 ?_ | refine rs0 (fun h => ?_) (fun h => ?_) | fail)
        rfl
    . repeat' (first | refine rl0 ?_ | refine rs0 (fun h => ?_) (fun h => ?_) | fail)
      . have e : A8 true n = (5, [1]) := by unfold A8; rw [if_neg (by simp),  if_pos (by simpa using h)]
        rw [e]
        refine wcb (id := 0) (hsub (5) [1] (by decide)) rfl rfl rfl rfl rfl rfl rfl rfl (by repeat (first | exact Ad | refine Aa (Ab _) ?_)) rfl ?_
        repeat' (first | refine rl0 ?_ | refine rs0 (fun h => ?_) (fun h => ?_) | fail)
        rfl
      . rename_i g1
        have e : A8 true n = (7 + n / 16 % 4, [1, 1]) := by unfold A8; rw [if_neg (by simp), if_neg (by simpa using g1), if_pos (by simpa using h)]
        rw [e]
        refine wcb (id := 0) (hsub (7 + n / 16 % 4) [1, 1] (by decide)) rfl rfl rfl rfl rfl rfl rfl rfl (by repeat (first | exact Ad | refine Aa (Ab _) ?_)) rfl ?_
        repeat' (first | refine rl0 ?_ | refine rs0 (fun h => ?_) (fun h => ?_) | fail)
        rfl
      . rename_i g1
        have e : A8 true n = (19, [2, 1, 1]) := by unfold A8; rw [if_neg (by simp), if_neg (by simpa using g1), if_neg (by simpa using h)]
        rw [e]
        refine wcb (id := 0) (hsub (19) [2, 1, 1] (by decide)) rfl rfl rfl rfl rfl rfl rfl rfl (by repeat (first | exact Ad | refine Aa (Ab _) ?_)) rfl ?_
        repeat' (first | refine rl0 ?_ | refine rs0 (fun h => ?_) (fun h => ?_) | fail)
        rfl
end Go.Proofs.YtiledamgmppcmaaGreatDoor
namespace Go.Proofs.YtiledamgmppcmaaGreatDoor
open Go.RowKit
def Ic (l : List UInt8) (want : Int) : Ex := (Gd l 9 want 0).1
theorem O1 (l : List UInt8) (want : Int) : An 28 [Co l, Ai want] ⟨[], []⟩ (.ret (exP (Ic l want))) ⟨[], []⟩ := by
  refine Af Tryz.func28 rfl rfl (Nat.le_of_ble_eq_true rfl) rfl (Nat.le_refl _) ?_
  repeat' (first | refine rl0 ?_ | refine rs0 (fun h => ?_) (fun h => ?_) | fail)
  refine wcb (id := 1) (Rq l 9 (by omega) want 0 (by decide)) rfl rfl rfl rfl rfl rfl rfl rfl (by repeat (first | exact Ad | refine Aa (Ab _) ?_)) rfl ?_
  repeat' (first | refine rl0 ?_ | refine rs0 (fun h => ?_) (fun h => ?_) | fail)
  rfl
end Go.Proofs.YtiledamgmppcmaaGreatDoor
namespace Go.Proofs.YtiledamgmppcmaaGreatDoor
open Go.RowKit
noncomputable section
end
end Go.Proofs.YtiledamgmppcmaaGreatDoor
namespace Go.Proofs.YtiledamgmppcmaaGreatDoor
open Go.RowKit
noncomputable section
section
variable (P : Program) (orc : Nat -> List PV -> PS -> Option (POut × PS)) (rows : Nat -> Bool)
end
end
end Go.Proofs.YtiledamgmppcmaaGreatDoor
namespace Go.Proofs.YtiledamgmppcmaaGreatDoor
open Go.RowKit Go.ChangeShapes Go.ChangeAt Go.WideShapes
def Zv : List TypeId := [24, 22, 3, 9, 5, 25, 28, 64, 27, 47, 44, 50, 45, 48]
theorem Jc : Jj Tryz.prog Zv = true := by kernel_rfl
theorem Of : Tryz.prog.cellsOf 5 = 1 := by kernel_rfl
theorem Al4 : Tryz.prog.cellsOf 47 = 3 := by kernel_rfl
theorem Lp {z : Int} (h : (Lit.int .u8 z).wf = true) : ∃ b : UInt8, z = b.toNat := by
  have hb := bounds_u8 h
  refine ⟨UInt8.ofNat z.toNat, ?_⟩
  rw [UInt8.toNat_ofNat']
  omega
theorem Qo {n : Nat} {l : List (List DV)} (h : ∀ x ∈ l, Shp Tryz.prog n 5 x) : ∃ bs : List UInt8, l = bs.map fun b => [DV.v (.int .u8 b.toNat)] := by
  obtain ⟨bs, h1, _⟩ := J2 (fun b : UInt8 => [DV.v (.int .u8 b.toNat)]) (R := fun _ => True) fun x hx => by
    obtain ⟨z, rfl, hw⟩ := Ix Tryz.underlying5 (h x hx)
    obtain ⟨b, rfl⟩ := Lp hw
    exact ⟨b, rfl, trivial⟩
  exact ⟨bs, h1⟩
end Go.Proofs.YtiledamgmppcmaaGreatDoor
namespace Go.Proofs.YtiledamgmppcmaaGreatDoor
open Go.RowKit
theorem Mc {j : Nat} (h : j < 10) : (⟨#[48, 49, 50, 51, 52, 53, 54, 55, 56, 57]⟩ : ByteArray).extract (j : Int).toNat ((j : Int) + 1).toNat = ⟨#[UInt8.ofNat (48 + j)]⟩ := by
  have : j = 0 \/ j = 1 \/ j = 2 \/ j = 3 \/ j = 4 \/ j = 5 \/ j = 6 \/ j = 7 \/ j = 8 \/ j = 9 := by omega
  rcases this with rfl | rfl | rfl | rfl | rfl | rfl | rfl | rfl | rfl | rfl <;> rfl
theorem O8 {j : Nat} (h : j < 10) : Mr j = ⟨#[UInt8.ofNat (48 + j)]⟩ := by
  unfold Mr; rw [I2, Lib.decDigits, dif_pos h]
theorem Uu {n : Nat} (h : ¬ n < 10) : Mr n = Mr (n / 10 : Nat) ++ ⟨#[UInt8.ofNat (48 + n % 10)]⟩ := by
  unfold Mr; rw [I2, I2, Lib.decDigits, dif_neg h]
  apply ByteArray.ext; apply Array.ext'; simp
set_option maxHeartbeats 400000 in
theorem Ps : ∀ (k n : Nat), n < k -> n <= 9223372036854775807 -> An 60 [Ai n] ⟨[], []⟩ (.ret (By (Mr n))) ⟨[], []⟩ := by
  intro k
  induction k with
  | zero => intro n h; omega
  | succ k ih =>
    intro n hk hn
    refine Af Tryz.func60 rfl rfl (Nat.le_of_ble_eq_true rfl) rfl (Nat.le_refl _) ?_
    repeat' (first | refine rl0 ?_ | refine rs0 (fun h => ?_) (fun h => ?_) | fail)
    . have h' : n < 10 := by have := h; simp at this; omega
      refine wst rfl rfl (by simp only [IntKind.lo, IntKind.hi]; omega) ?_
      refine wst rfl rfl ⟨by omega, by omega, by show (n : Int) + 1 <= 10; omega⟩ ?_
      repeat' (first | refine rl0 ?_ | refine rs0 (fun h => ?_) (fun h => ?_) | fail)
      rw [Mc h', O8 h']
    . have h' : ¬ n < 10 := by have := h; simp at this; omega
      have hd := ih (n / 10) (by omega) (by omega)
      refine wcn (args := [Ai (n / 10 : Nat)]) hd rfl rfl rfl rfl rfl (by repeat (first | exact Ad | refine Aa (Ab _) ?_)) ?_
      repeat' (first | refine rl0 ?_ | refine rs0 (fun h => ?_) (fun h => ?_) | fail)
      refine wan rfl rfl ⟨by omega, by omega, by show (n : Int) % 10 + 1 <= 10; omega⟩ ?_
      have hm : n % 10 < 10 := Nat.mod_lt _ (by omega)
      have hcut : (⟨#[48, 49, 50, 51, 52, 53, 54, 55, 56, 57]⟩ : ByteArray).extract ((n : Int) % 10).toNat ((n : Int) % 10 + 1).toNat = ⟨#[UInt8.ofNat (48 + n % 10)]⟩ := Mc hm
      refine wan rfl rfl (by rw [hcut]; have := Uv (n := n / 10) (by omega); show (Mr (n / 10 : Nat)).size + 1 <= _; omega) ?_
      repeat' (first | refine rl0 ?_ | refine rs0 (fun h => ?_) (fun h => ?_) | fail)
      rw [hcut, Uu h']
theorem Pr (n : Nat) (hn : n <= 9223372036854775807) : An 42 [Ai n] ⟨[], []⟩ (.ret (By (Mr n))) ⟨[], []⟩ := by
  refine Af Tryz.func42 rfl rfl (Nat.le_of_ble_eq_true rfl) rfl (Nat.le_refl _) ?_
  repeat' (first | refine rl0 ?_ | refine rs0 (fun h => ?_) (fun h => ?_) | fail)
  refine D3 (Ps (n + 1) n (by omega) hn) rfl rfl rfl rfl rfl (by repeat (first | exact Ad | refine Aa (Ab _) ?_)) ?_
  repeat' (first | refine rl0 ?_ | refine rs0 (fun h => ?_) (fun h => ?_) | fail)
  rfl
end Go.Proofs.YtiledamgmppcmaaGreatDoor
namespace Go.Proofs.YtiledamgmppcmaaGreatDoor
open Go.RowKit
theorem Hj {x : Ex} (k : Int) (hw : (Ap x).size <= 1000000) (h : An 27 [exP x] ⟨[], []⟩ (.ret (By (Ap x))) ⟨[], []⟩) : An 65 [exP x, Ai k] ⟨[], []⟩ (.ret (By (F5 (Ap x, Ak x.op) k))) ⟨[], []⟩ := by
  refine Af Tryz.func65 rfl rfl (Nat.le_of_ble_eq_true rfl) rfl (Nat.le_refl _) ?_
  repeat' (first | refine rl0 ?_ | refine rs0 (fun h => ?_) (fun h => ?_) | fail)
  refine D3 h rfl rfl rfl rfl rfl (by repeat (first | exact Ad | refine Aa (Ab _) ?_)) ?_
  repeat' (first | refine rl0 ?_ | refine rs0 (fun h => ?_) (fun h => ?_) | fail)
  refine D3 (U5 x) rfl rfl rfl rfl rfl (by repeat (first | exact Ad | refine Aa (Ab _) ?_)) ?_
  have e1 : (Wk ++ Ap x).size <= 1000002 := by simp only [ByteArray.size_append]; show 2 + _ <= _; omega
  repeat' (first | refine rl0 ?_ | refine rs0 (fun h => ?_) (fun h => ?_) | fail)
  . refine wst rfl rfl (by show 2 + (Ap x).size <= _; omega) ?_
    refine wst rfl rfl (by show (Wk ++ Ap x).size + 2 <= _; omega) ?_
    repeat' (first | refine rl0 ?_ | refine rs0 (fun h => ?_) (fun h => ?_) | fail)
    rw [show F5 (Ap x, Ak x.op) k = (Wk ++ Ap x) ++ Ahm from if_pos (by simpa using h)]; rfl
  . rw [show F5 (Ap x, Ak x.op) k = Ap x from if_neg (by simpa using h)]
theorem M0 {op : Int} (h1 : 5 <= op) (h2 : op <= 18) : op = 5 \/ op = 6 \/ op = 7 \/ op = 8 \/ op = 9 \/ op = 10 \/ op = 11 \/ op = 12 \/ op = 13 \/ op = 14 \/ op = 15 \/ op = 16 \/ op = 17 \/ op = 18 := by omega
theorem Qg {op : Int} (h : 5 <= op /\ op <= 18) : (Ak op = 3 \/ Ak op = 7) /\ Eu op = 1 \/ Ak op ≠ 3 /\ Ak op ≠ 7 /\ Eu op = 2 := by
  rcases M0 h.1 h.2 with rfl | rfl | rfl | rfl | rfl | rfl | rfl | rfl | rfl | rfl | rfl | rfl | rfl | rfl <;> decide
set_option maxHeartbeats 1000000 in
theorem Abr : ∀ (n : Nat) (x : Ex), x.hgt <= n -> x.fine = true -> wtX x <= 1000000 -> An 27 [exP x] ⟨[], []⟩ (.ret (By (Ap x))) ⟨[], []⟩ := by
  intro n
  induction n with
  | zero => intro a h; cases a; simp [Ex.hgt] at h
  | succ n ih =>
    intro x hn hx hw
    have hsub : ∀ y ∈ x.args, An 27 [exP y] ⟨[], []⟩ (.ret (By (Ap y))) ⟨[], []⟩ /\ (Ap y).size + 4 <= wtX y := fun y hy =>
      ⟨ih y (by have := Mn hy; omega) (Qd hx hy) (by have := Ajv hy; have := Alc x; omega), Nj y (Qd hx hy)⟩
    have hwx := Alc x
    refine Af Tryz.func27 rfl rfl (Nat.le_of_ble_eq_true rfl) rfl (Nat.le_refl _) ?_
    have hf := Tw hx
    have hc := Cp x
    have hs3 := Wo x.op
    repeat' (first | refine rl0 ?_ | refine rs0 (fun h => ?_) (fun h => ?_) | fail)
    . have ho : x.op = 1 := by simpa using h
      have hd : An 42 [Ai x.n] ⟨[], []⟩ (.ret (By (Mr x.n))) ⟨[], []⟩ := by
        obtain ⟨m, hm⟩ := Int.eq_ofNat_of_zero_le hf.2.1
        rw [hm]; exact Pr m (by omega)
      refine D3 hd rfl rfl rfl rfl rfl (by repeat (first | exact Ad | refine Aa (Ab _) ?_)) ?_
      repeat' (first | refine rl0 ?_ | refine rs0 (fun h => ?_) (fun h => ?_) | fail)
      rw [hc]; unfold Ph; rw [if_pos ho]
    . have ho : x.op = 2 := by simpa using h
      rw [hc]; unfold Ph; rw [if_neg (by omega), if_pos ho]
    . have ho : x.op = 3 := by simpa using h
      rw [hc]; unfold Ph; rw [if_neg (by omega), if_neg (by omega), if_pos ho]; rfl
    . have ho : x.op = 4 := by simpa using h
      rw [hc]; unfold Ph; rw [if_neg (by omega), if_neg (by omega), if_neg (by omega), if_pos ho]; rfl
    . have ho : x.op = 19 := by simpa using h
      obtain ⟨a, b, c, he⟩ : ∃ a b c, x.args = [a, b, c] := by
        have := hf.1
        rw [ho, show Eu 19 = 3 from rfl] at this
        match e : x.args, this with
        | [a, b, c], _ => exact ⟨a, b, c, rfl⟩
        | [], h => simp at h
        | [_], h => simp at h
        | [_, _], h => simp at h
        | _ :: _ :: _ :: _ :: _, h => simp at h; omega
      have ha := hsub a (by rw [he]; simp)
      have hb := hsub b (by rw [he]; simp)
      have hcc := hsub c (by rw [he]; simp)
      have hwl : wtL x.args = wtX a + (wtX b + (wtX c + 0)) := by rw [he]; rfl
      have e1 : (sIf ++ Ap a).size = 3 + (Ap a).size := by rw [ByteArray.size_append]; rfl
      have e2 : ((sIf ++ Ap a) ++ Mp).size = 9 + (Ap a).size := by rw [ByteArray.size_append, e1]; show 3 + _ + 6 = _; omega
      have e3 : (((sIf ++ Ap a) ++ Mp) ++ Ap b).size = 9 + (Ap a).size + (Ap b).size := by rw [ByteArray.size_append, e2]
      have e4 : ((((sIf ++ Ap a) ++ Mp) ++ Ap b) ++ Wj).size = 15 + (Ap a).size + (Ap b).size := by rw [ByteArray.size_append, e3]; show _ + 6 = _; omega
      refine Ib _ rfl rfl rfl rfl rfl (Cf (i := 0) (x := a) (by rw [he]; rfl)) (by omega) ?_
      repeat' (first | refine rl0 ?_ | refine rs0 (fun h => ?_) (fun h => ?_) | fail)
      refine wcn ha.1 rfl rfl rfl rfl rfl (by repeat (first | exact Ad | refine Aa (Ab _) ?_)) ?_
      refine wan rfl rfl (by show 3 + (Ap a).size <= _; omega) ?_
      refine wan rfl rfl (by show (sIf ++ Ap a).size + 6 <= _; omega) ?_
      repeat' (first | refine rl0 ?_ | refine rs0 (fun h => ?_) (fun h => ?_) | fail)
      refine Ib _ rfl rfl rfl rfl rfl (Cf (i := 1) (x := b) (by rw [he]; rfl)) (by omega) ?_
      repeat' (first | refine rl0 ?_ | refine rs0 (fun h => ?_) (fun h => ?_) | fail)
      refine wcn hb.1 rfl rfl rfl rfl rfl (by repeat (first | exact Ad | refine Aa (Ab _) ?_)) ?_
      refine wan rfl rfl (by show ((sIf ++ Ap a) ++ Mp).size + (Ap b).size <= _; omega) ?_
      refine wan rfl rfl (by show (((sIf ++ Ap a) ++ Mp) ++ Ap b).size + 6 <= _; omega) ?_
      repeat' (first | refine rl0 ?_ | refine rs0 (fun h => ?_) (fun h => ?_) | fail)
      refine Ib _ rfl rfl rfl rfl rfl (Cf (i := 2) (x := c) (by rw [he]; rfl)) (by omega) ?_
      repeat' (first | refine rl0 ?_ | refine rs0 (fun h => ?_) (fun h => ?_) | fail)
      refine wcn hcc.1 rfl rfl rfl rfl rfl (by repeat (first | exact Ad | refine Aa (Ab _) ?_)) ?_
      refine wan rfl rfl (by show ((((sIf ++ Ap a) ++ Mp) ++ Ap b) ++ Wj).size + (Ap c).size <= _; omega) ?_
      repeat' (first | refine rl0 ?_ | refine rs0 (fun h => ?_) (fun h => ?_) | fail)
      rw [hc, he, Cd]; unfold Ph; rw [if_neg (by omega), if_neg (by omega), if_neg (by omega), if_neg (by omega)]
      simp only [List.map_cons, List.map_nil]; rw [if_pos ho]; rfl
    . rename_i g1 g2 g3 g4
      have hops : 5 <= x.op /\ x.op <= 18 := by
        have := hf.1
        simp at g1 g2 g3 g4 h
        unfold Eu at this
        repeat' split at this
        all_goals omega
      refine D3 (U5 x) rfl rfl rfl rfl rfl (by repeat (first | exact Ad | refine Aa (Ab _) ?_)) ?_
      repeat' (first | refine rl0 ?_ | refine rs0 (fun h => ?_) (fun h => ?_) | fail)
      rotate_left 2
      . have h4 : Ak x.op = 4 := by simpa using h
        have hl := Qg hops
        obtain ⟨a, b, he⟩ := Th (by rw [hf.1]; omega : (x.args.length : Int) = 2)
        have ha := hsub a (by rw [he]; simp)
        have hb := hsub b (by rw [he]; simp)
        have hwl : wtL x.args = wtX a + (wtX b + 0) := by rw [he]; rfl
        have w1 := Cy (Ap a, Ak a.op) 5
        have w2 := Cy (Ap b, Ak b.op) 5
        dsimp only at w1 w2
        generalize hA : F5 (Ap a, Ak a.op) 5 = A at w1
        generalize hB : F5 (Ap b, Ak b.op) 5 = B at w2
        have dA := Hj 5 (by omega) ha.1
        have dB := Hj 5 (by omega) hb.1
        rw [hA] at dA
        rw [hB] at dB
        have e1 : (A ++ sSp).size = A.size + 1 := by rw [ByteArray.size_append]; rfl
        have e2 : ((A ++ sSp) ++ C3 x.op).size = A.size + 1 + (C3 x.op).size := by rw [ByteArray.size_append, e1]
        have e3 : (((A ++ sSp) ++ C3 x.op) ++ sSp).size = A.size + 1 + (C3 x.op).size + 1 := by rw [ByteArray.size_append, e2]; rfl
        refine Ib _ rfl rfl rfl rfl rfl (Cf (i := 0) (x := a) (by rw [he]; rfl)) (by omega) ?_
        repeat' (first | refine rl0 ?_ | refine rs0 (fun h => ?_) (fun h => ?_) | fail)
        refine wcn dA rfl rfl rfl rfl rfl (by repeat (first | exact Ad | refine Aa (Ab _) ?_)) ?_
        refine wan rfl rfl (by show A.size + 1 <= _; omega) ?_
        repeat' (first | refine rl0 ?_ | refine rs0 (fun h => ?_) (fun h => ?_) | fail)
        refine wcn (Qp x.op) rfl rfl rfl rfl rfl (by repeat (first | exact Ad | refine Aa (Ab _) ?_)) ?_
        refine wan rfl rfl (by show (A ++ sSp).size + (C3 x.op).size <= _; omega) ?_
        refine wan rfl rfl (by show ((A ++ sSp) ++ C3 x.op).size + 1 <= _; omega) ?_
        repeat' (first | refine rl0 ?_ | refine rs0 (fun h => ?_) (fun h => ?_) | fail)
        refine Ib _ rfl rfl rfl rfl rfl (Cf (i := 1) (x := b) (by rw [he]; rfl)) (by omega) ?_
        repeat' (first | refine rl0 ?_ | refine rs0 (fun h => ?_) (fun h => ?_) | fail)
        refine wcn dB rfl rfl rfl rfl rfl (by repeat (first | exact Ad | refine Aa (Ab _) ?_)) ?_
        refine wan rfl rfl (by show (((A ++ sSp) ++ C3 x.op) ++ sSp).size + B.size <= _; omega) ?_
        repeat' (first | refine rl0 ?_ | refine rs0 (fun h => ?_) (fun h => ?_) | fail)
        rw [hc, Ev hops, he, Cd]
        simp only [List.map_cons, List.map_nil]
        rw [<- hA, <- hB]
        rw [if_pos h4]; rfl
      . have h4 : Ak x.op ≠ 4 := by simpa using h
        rename_i k1 k2
        simp at k1 k2
        have hl := Qg hops
        obtain ⟨a, b, he⟩ := Th (by rw [hf.1]; omega : (x.args.length : Int) = 2)
        have hlv : 0 <= Ak x.op /\ Ak x.op <= 8 := by unfold Ak; (repeat' split) <;> omega
        have ha := hsub a (by rw [he]; simp)
        have hb := hsub b (by rw [he]; simp)
        have hwl : wtL x.args = wtX a + (wtX b + 0) := by rw [he]; rfl
        have w1 := Cy (Ap a, Ak a.op) (Ak x.op)
        have w2 := Cy (Ap b, Ak b.op) (Ak x.op + 1)
        dsimp only at w1 w2
        generalize hA : F5 (Ap a, Ak a.op) (Ak x.op) = A at w1
        generalize hB : F5 (Ap b, Ak b.op) (Ak x.op + 1) = B at w2
        have dA := Hj (Ak x.op) (by omega) ha.1
        have dB := Hj (Ak x.op + 1) (by omega) hb.1
        rw [hA] at dA
        rw [hB] at dB
        have e1 : (A ++ sSp).size = A.size + 1 := by rw [ByteArray.size_append]; rfl
        have e2 : ((A ++ sSp) ++ C3 x.op).size = A.size + 1 + (C3 x.op).size := by rw [ByteArray.size_append, e1]
        have e3 : (((A ++ sSp) ++ C3 x.op) ++ sSp).size = A.size + 1 + (C3 x.op).size + 1 := by rw [ByteArray.size_append, e2]; rfl
        refine Ib _ rfl rfl rfl rfl rfl (Cf (i := 0) (x := a) (by rw [he]; rfl)) (by omega) ?_
        repeat' (first | refine rl0 ?_ | refine rs0 (fun h => ?_) (fun h => ?_) | fail)
        refine wcn dA rfl rfl rfl rfl rfl (by repeat (first | exact Ad | refine Aa (Ab _) ?_)) ?_
        refine wan rfl rfl (by show A.size + 1 <= _; omega) ?_
        repeat' (first | refine rl0 ?_ | refine rs0 (fun h => ?_) (fun h => ?_) | fail)
        refine wcn (Qp x.op) rfl rfl rfl rfl rfl (by repeat (first | exact Ad | refine Aa (Ab _) ?_)) ?_
        refine wan rfl rfl (by show (A ++ sSp).size + (C3 x.op).size <= _; omega) ?_
        refine wan rfl rfl (by show ((A ++ sSp) ++ C3 x.op).size + 1 <= _; omega) ?_
        repeat' (first | refine rl0 ?_ | refine rs0 (fun h => ?_) (fun h => ?_) | fail)
        refine Ib _ rfl rfl rfl rfl rfl (Cf (i := 1) (x := b) (by rw [he]; rfl)) (by omega) ?_
        repeat' (first | refine rl0 ?_ | refine rs0 (fun h => ?_) (fun h => ?_) | fail)
        refine wcn dB rfl rfl rfl rfl rfl (by repeat (first | exact Ad | refine Aa (Ab _) ?_)) ?_
        refine wan rfl rfl (by show (((A ++ sSp) ++ C3 x.op) ++ sSp).size + B.size <= _; omega) ?_
        repeat' (first | refine rl0 ?_ | refine rs0 (fun h => ?_) (fun h => ?_) | fail)
        rw [hc, Ev hops, he, Cd]
        simp only [List.map_cons, List.map_nil]
        rw [<- hA, <- hB]
        rw [if_neg h4]; rfl
      all_goals (have hlv : Ak x.op = 3 \/ Ak x.op = 7 := by simp at h; omega)
      all_goals (have hl := Qg hops)
      all_goals (obtain ⟨a, he⟩ := Ag7 (by rw [hf.1]; omega : (x.args.length : Int) = 1))
      . have ha := hsub a (by rw [he]; simp)
        have hwl : wtL x.args = wtX a + 0 := by rw [he]; rfl
        have hwr := Cy (Ap a, Ak a.op) (Ak x.op)
        have e1 : (C3 x.op ++ sSp).size = (C3 x.op).size + 1 := by rw [ByteArray.size_append]; rfl
        refine wcn (Qp x.op) rfl rfl rfl rfl rfl (by repeat (first | exact Ad | refine Aa (Ab _) ?_)) ?_
        refine wan rfl rfl (by show (C3 x.op).size + 1 <= _; omega) ?_
        repeat' (first | refine rl0 ?_ | refine rs0 (fun h => ?_) (fun h => ?_) | fail)
        refine Ib _ rfl rfl rfl rfl rfl (Cf (i := 0) (x := a) (by rw [he]; rfl)) (by omega) ?_
        repeat' (first | refine rl0 ?_ | refine rs0 (fun h => ?_) (fun h => ?_) | fail)
        refine wcn (Hj (Ak x.op) (by omega) ha.1) rfl rfl rfl rfl rfl (by repeat (first | exact Ad | refine Aa (Ab _) ?_)) ?_
        refine wan rfl rfl (by show (C3 x.op ++ sSp).size + (F5 (Ap a, Ak a.op) (Ak x.op)).size <= _; dsimp only at hwr; omega) ?_
        repeat' (first | refine rl0 ?_ | refine rs0 (fun h => ?_) (fun h => ?_) | fail)
        rw [hc, Ev hops, he, Cd]; rfl
      . have ha := hsub a (by rw [he]; simp)
        have hwl : wtL x.args = wtX a + 0 := by rw [he]; rfl
        have hwr := Cy (Ap a, Ak a.op) (Ak x.op)
        have e1 : (C3 x.op ++ sSp).size = (C3 x.op).size + 1 := by rw [ByteArray.size_append]; rfl
        refine wcn (Qp x.op) rfl rfl rfl rfl rfl (by repeat (first | exact Ad | refine Aa (Ab _) ?_)) ?_
        refine wan rfl rfl (by show (C3 x.op).size + 1 <= _; omega) ?_
        repeat' (first | refine rl0 ?_ | refine rs0 (fun h => ?_) (fun h => ?_) | fail)
        refine Ib _ rfl rfl rfl rfl rfl (Cf (i := 0) (x := a) (by rw [he]; rfl)) (by omega) ?_
        repeat' (first | refine rl0 ?_ | refine rs0 (fun h => ?_) (fun h => ?_) | fail)
        refine wcn (Hj (Ak x.op) (by omega) ha.1) rfl rfl rfl rfl rfl (by repeat (first | exact Ad | refine Aa (Ab _) ?_)) ?_
        refine wan rfl rfl (by show (C3 x.op ++ sSp).size + (F5 (Ap a, Ak a.op) (Ak x.op)).size <= _; dsimp only at hwr; omega) ?_
        repeat' (first | refine rl0 ?_ | refine rs0 (fun h => ?_) (fun h => ?_) | fail)
        rw [hc, Ev hops, he, Cd]; rfl
end Go.Proofs.YtiledamgmppcmaaGreatDoor
namespace Go.Proofs.YtiledamgmppcmaaGreatDoor
open Go.RowKit
theorem ret_hd {S : PS} {n m : Nat} {p : PV} {c : DV} (h : Coe S p (.d c)) : Ret S n m p (.d c) := fun K w u hI hr => Rep.cut _ _ rfl (h K w u hI hr)
end Go.Proofs.YtiledamgmppcmaaGreatDoor
namespace Go.Proofs.YtiledamgmppcmaaGreatDoor
open Go.RowKit
structure PRes where
  x : Ex
  at' : Nat
  bad : Bool
def PRes.no (a : Nat) : PRes := ⟨.nil, a, true⟩
def PRes.yes (x : Ex) (a : Nat) : PRes := ⟨x, a, false⟩
def PRes.go (p : PRes) (f : Ex -> Nat -> PRes) : PRes := if p.bad = true then .no p.at' else f p.x p.at'
def Ba (l : List TkZ) (a : Nat) (s : ByteArray) : Bool := match l[a]? with
  | some t => decide (t.2.1 = s) && (decide (t.1 = 2) || decide (t.1 = 4))
  | none => false
def Ct (l : List TkZ) (a : Nat) (s : ByteArray) (f : Nat -> PRes) : PRes := if Ba l a s = true then f (a + 1) else .no a
def Jk : Nat -> List (Int × ByteArray)
  | 1 => [(18, ⟨#[111, 114]⟩)]
  | 2 => [(17, ⟨#[97, 110, 100]⟩)]
  | 4 => [(11, ⟨#[61]⟩), (12, ⟨#[33, 61]⟩), (13, ⟨#[60]⟩), (14, ⟨#[60, 61]⟩), (15, ⟨#[62]⟩), (16, ⟨#[62, 61]⟩)]
  | 5 => [(7, ⟨#[43]⟩), (8, ⟨#[45]⟩)]
  | 6 => [(9, ⟨#[42]⟩), (10, ⟨#[47]⟩)]
  | _ => []
def Bd (l : List TkZ) (a m : Nat) : Option Int := ((Jk m).find? fun p => Ba l a p.2).map (·.1)
def Ao (m : Nat) : Nat := if m = 2 then 3 else m + 1
def kIf : ByteArray := ⟨#[105, 102]⟩
def Kq : ByteArray := ⟨#[116, 104, 101, 110]⟩
def Kp : ByteArray := ⟨#[101, 108, 115, 101]⟩
def Ab6 : ByteArray := ⟨#[110, 111, 116]⟩
def Ms : ByteArray := ⟨#[45]⟩
def Ik : ByteArray := ⟨#[40]⟩
def Hl : ByteArray := ⟨#[41]⟩
def Lv (s : ByteArray) : Int := (Lib.atoi s.data.toList).getD 0
def Gf (t : TkZ) (a : Nat) : PRes := if t.1 = 1 then .yes (.mk 2 0 t.2.1 []) (a + 1) else if t.1 = 3 then .yes (.mk 1 (Lv t.2.1) ⟨#[]⟩ []) (a + 1) else .no a
def Jm (l : List TkZ) (a : Nat) : PRes := match l[a]? with
  | none => .no a
  | some t => Gf t a
mutual
def pE (l : List TkZ) : Nat -> Nat -> Nat -> PRes
  | 0, _, a => .no a
  | n + 1, 0, a => if Ba l a kIf = true then
      (pE l n 0 (a + 1)).go fun x b => Ct l b Kq fun b => (pE l n 0 b).go fun y c => Ct l c Kp fun c => (pE l n 0 c).go fun z d => .yes (nd 19 [x, y, z]) d
      else pE l n 1 a
  | n + 1, 3, a => if Ba l a Ab6 = true then (pE l n 3 (a + 1)).go fun x b => .yes (nd 6 [x]) b
      else (pE l n 5 a).go fun x b => match Bd l b 4 with
        | some op => (pE l n 5 (b + 1)).go fun y c => .yes (nd op [x, y]) c
        | none => .yes x b
  | n + 1, 7, a => if Ba l a Ms = true then (pE l n 7 (a + 1)).go fun x b => .yes (nd 5 [x]) b
      else if Ba l a Oc = true then .yes (nd 3 []) (a + 1)
      else if Ba l a Jg = true then .yes (nd 4 []) (a + 1)
      else if Ba l a Ik = true then (pE l n 0 (a + 1)).go fun x b => Ct l b Hl fun c => .yes x c
      else Jm l a
  | n + 1, m, a => (pE l n (Ao m) a).go fun x b => pR l n m x b
def pR (l : List TkZ) : Nat -> Nat -> Ex -> Nat -> PRes
  | 0, _, _, a => .no a
  | n + 1, m, x, a => match Bd l a m with
    | none => .yes x a
    | some op => (pE l n (Ao m) (a + 1)).go fun y b => pR l n m (nd op [x, y]) b
end
def A5 : Nat -> Nat
  | 0 => 8
  | 1 => 7
  | 2 => 6
  | 3 => 5
  | 5 => 4
  | 6 => 3
  | _ => 2
def D1 (l : List TkZ) (a : Nat) : PRes := pE l (8 * (l.length - a) + 9) 0 a
theorem Bs {l : List TkZ} {a : Nat} {s : ByteArray} (h : Ba l a s = true) : a < l.length := by
  unfold Ba at h
  split at h
  . rename_i t ht; exact (List.getElem?_eq_some_iff.1 ht).1
  . cases h
theorem B0 {l : List TkZ} {a m : Nat} {op : Int} (h : Bd l a m = some op) : a < l.length := by
  unfold Bd at h
  obtain ⟨p, hp, _⟩ := Option.map_eq_some_iff.1 h
  have h2 := List.find?_some (p := fun q : Int × ByteArray => Ba l a q.2) hp
  exact Bs h2
def PRes.fits (p : PRes) (l : List TkZ) (a : Nat) : Prop := a <= p.at' /\ (a <= l.length -> p.at' <= l.length)
theorem Dh {l : List TkZ} {a : Nat} : (PRes.no a).fits l a := ⟨Nat.le_refl _, id⟩
theorem Bc {l : List TkZ} {a : Nat} {x : Ex} : (PRes.yes x a).fits l a := ⟨Nat.le_refl _, id⟩
theorem PRes.fits.up {p : PRes} {l : List TkZ} {a b : Nat} (h : p.fits l b) (hab : a <= b) (hb : a <= l.length -> b <= l.length) : p.fits l a := ⟨Nat.le_trans hab h.1, fun ha => h.2 (hb ha)⟩
theorem PRes.fits.one {p : PRes} {l : List TkZ} {a : Nat} {s : ByteArray} (h : p.fits l (a + 1)) (hs : Ba l a s = true) : p.fits l a := h.up (Nat.le_succ _) fun _ => Bs hs
theorem B1 {p : PRes} {f : Ex -> Nat -> PRes} {l : List TkZ} {a : Nat} (h : p.fits l a) (hf : ∀ x b, (f x b).fits l b) : (p.go f).fits l a := by
  unfold PRes.go
  split
  . exact PRes.fits.up Dh h.1 h.2
  . exact (hf p.x p.at').up h.1 h.2
theorem D6 {f : Nat -> PRes} {l : List TkZ} {a : Nat} {s : ByteArray} (hf : ∀ b, (f b).fits l b) : (Ct l a s f).fits l a := by
  unfold Ct
  split
  . rename_i h; exact (hf _).one h
  . exact Dh
theorem Km {l : List TkZ} {a : Nat} {t : TkZ} (h : l[a]? = some t) : (Gf t a).fits l a := by
  have := (List.getElem?_eq_some_iff.1 h).1
  unfold Gf
  split
  . exact Bc.up (Nat.le_succ _) fun _ => this
  . split
    . exact Bc.up (Nat.le_succ _) fun _ => this
    . exact Dh
theorem Dz (l : List TkZ) (n m a : Nat) (h0 : m ≠ 0) (h3 : m ≠ 3) (h7 : m ≠ 7) : pE l (n + 1) m a = (pE l n (Ao m) a).go fun x b => pR l n m x b := by
  rw [pE] <;> simp_all
theorem Hw (l : List TkZ) : ∀ n, (∀ m a, (pE l n m a).fits l a) /\ ∀ m x a, (pR l n m x a).fits l a
  | 0 => ⟨fun m a => by rw [pE]; exact Dh, fun m x a => by rw [pR]; exact Dh⟩
  | n + 1 => by
    obtain ⟨h1, h2⟩ := Hw l n
    refine ⟨fun m a => ?_, fun m x a => ?_⟩
    . by_cases e0 : m = 0
      . subst e0
        rw [pE]
        split
        . rename_i h
          exact (B1 (h1 _ _) fun x b => D6 fun b => B1 (h1 _ _) fun y c => D6 fun c => B1 (h1 _ _) fun z d => Bc).one h
        . exact h1 _ _
      by_cases e3 : m = 3
      . subst e3
        rw [pE]
        split
        . rename_i h
          exact (B1 (h1 _ _) fun x b => Bc).one h
        . refine B1 (h1 _ _) fun x b => ?_
          split
          . rename_i op ho
            exact (B1 (h1 _ _) fun y c => Bc).up (Nat.le_succ _) fun _ => B0 ho
          . exact Bc
      by_cases e7 : m = 7
      . subst e7
        rw [pE]
        split
        . rename_i h
          exact (B1 (h1 _ _) fun x b => Bc).one h
        split
        . rename_i h; exact PRes.fits.one Bc h
        split
        . rename_i h; exact PRes.fits.one Bc h
        split
        . rename_i h
          exact (B1 (h1 _ _) fun x b => D6 fun c => Bc).one h
        unfold Jm
        split
        . exact Dh
        . rename_i t ht; exact Km ht
      rw [Dz l n m a e0 e3 e7]
      exact B1 (h1 _ _) fun x b => h2 _ _ _
    . rw [pR]
      split
      . exact Bc
      . rename_i op ho
        exact (B1 (h1 _ _) fun y c => h2 _ _ _).up (Nat.le_succ _) fun _ => B0 ho
theorem Gc (l : List TkZ) (n m a : Nat) : a <= (pE l n m a).at' := ((Hw l n).1 m a).1
theorem Dg (l : List TkZ) (n m a : Nat) (h : a <= l.length) : (pE l n m a).at' <= l.length := ((Hw l n).1 m a).2 h
end Go.Proofs.YtiledamgmppcmaaGreatDoor
namespace Go.Proofs.YtiledamgmppcmaaGreatDoor
open Go.RowKit
theorem D0 (op : Int) (l : List Ex) : An 114 [Ai op, .d (.sl 4 (Eb l))] ⟨[], []⟩ (.ret (exP (.mk op 0 ⟨#[]⟩ l))) ⟨[], []⟩ := by
  refine Af Tryz.func114 rfl rfl (Nat.le_of_ble_eq_true rfl) rfl (Nat.le_refl _) ?_
  repeat' (first | refine rl0 ?_ | refine rs0 (fun h => ?_) (fun h => ?_) | fail)
  rfl
end Go.Proofs.YtiledamgmppcmaaGreatDoor
namespace Go.Proofs.YtiledamgmppcmaaGreatDoor
open Go.RowKit
@[reducible] def pxS (l : List TkZ) (a : Nat) : PS := ⟨[[.d (.sl 3 (l.map tkR)), Ai a]], []⟩
theorem Kn {l : List TkZ} {a : Nat} {s : ByteArray} (h : l.length <= a) : Ba l a s = false := by
  unfold Ba; rw [List.getElem?_eq_none h]
theorem G9 {l : List TkZ} {a : Nat} {s : ByteArray} {t : TkZ} (h : l[a]? = some t) : Ba l a s = (decide (t.2.1 = s) && (decide (t.1 = 2) || decide (t.1 = 4))) := by
  unfold Ba; rw [h]
theorem B4 {l : List TkZ} {a : Nat} {t : TkZ} (h : l[a]? = some t) : (l.map tkR)[((a : Nat) : Int).toNat]? = some (tkR t) := by
  rw [Int.toNat_natCast, List.getElem?_map, h]; rfl
theorem Aj {l : List TkZ} {s : ByteArray} {a : Nat} (hl : l.length <= 9223372036854775806) (h : Ba l a s = false) : An 111 [.ptr 0 0, By s] (pxS l a) (.ret (A7 false)) (pxS l a) := by
  have hn := h
  refine Af Tryz.func111 rfl rfl (Nat.le_of_ble_eq_true rfl) rfl (Nat.le_refl _) ?_
  repeat' (first | refine rl0 ?_ | refine rs0 (fun h => ?_) (fun h => ?_) | fail)
  . rfl
  . have hlt : a < l.length := by simp at h; omega
    obtain ⟨t, ht⟩ : ∃ t, l[a]? = some t := ⟨_, List.getElem?_eq_getElem hlt⟩
    rw [G9 ht] at hn
    refine Ib _ rfl rfl rfl rfl rfl (B4 ht) (by omega) ?_
    repeat' (first | refine rl0 ?_ | refine rs0 (fun h => ?_) (fun h => ?_) | fail)
    . rfl
    refine Ib _ rfl rfl rfl rfl rfl (B4 ht) (by omega) ?_
    repeat' (first | refine rl0 ?_ | refine rs0 (fun h => ?_) (fun h => ?_) | fail)
    . refine Ib _ rfl rfl rfl rfl rfl (B4 ht) (by omega) ?_
      repeat' (first | refine rl0 ?_ | refine rs0 (fun h => ?_) (fun h => ?_) | fail)
      . rfl
      . exfalso; simp_all
    . exfalso; simp_all
theorem As {l : List TkZ} {s : ByteArray} {a : Nat} (hl : l.length <= 9223372036854775806) (h : Ba l a s = true) : An 111 [.ptr 0 0, By s] (pxS l a) (.ret (A7 true)) (pxS l (a + 1)) := by
  have hn := h
  have hlt := Bs h
  obtain ⟨t, ht⟩ : ∃ t, l[a]? = some t := ⟨_, List.getElem?_eq_getElem hlt⟩
  rw [G9 ht] at hn
  refine Af Tryz.func111 rfl rfl (Nat.le_of_ble_eq_true rfl) rfl (Nat.le_refl _) ?_
  repeat' (first | refine rl0 ?_ | refine rs0 (fun h => ?_) (fun h => ?_) | fail)
  . exfalso; simp at h; omega
  refine Ib _ rfl rfl rfl rfl rfl (B4 ht) (by omega) ?_
  repeat' (first | refine rl0 ?_ | refine rs0 (fun h => ?_) (fun h => ?_) | fail)
  . exfalso; simp_all
  refine Ib _ rfl rfl rfl rfl rfl (B4 ht) (by omega) ?_
  repeat' (first | refine rl0 ?_ | refine rs0 (fun h => ?_) (fun h => ?_) | fail)
  . refine Ib _ rfl rfl rfl rfl rfl (B4 ht) (by omega) ?_
    repeat' (first | refine rl0 ?_ | refine rs0 (fun h => ?_) (fun h => ?_) | fail)
    . exfalso; simp_all
    . rfl
  . rfl
theorem C1 {l : List TkZ} {s : ByteArray} {a : Nat} (hl : l.length <= 9223372036854775806) (h : Ba l a s = true) : An 113 [.ptr 0 0, By s] (pxS l a) (.ret (.tup [])) (pxS l (a + 1)) := by
  refine Af Tryz.func113 rfl rfl (Nat.le_of_ble_eq_true rfl) rfl (Nat.le_refl _) ?_
  repeat' (first | refine rl0 ?_ | refine rs0 (fun h => ?_) (fun h => ?_) | fail)
  refine wcb (id := 0) (As hl h) rfl rfl rfl rfl rfl rfl rfl rfl (by repeat (first | exact Ad | refine Aa (Ab _) ?_)) rfl ?_
  repeat' (first | refine rl0 ?_ | refine rs0 (fun h => ?_) (fun h => ?_) | fail)
  rfl
theorem Fg {l : List TkZ} {s : ByteArray} {a : Nat} (hl : l.length <= 9223372036854775806) (h : Ba l a s = false) : An 113 [.ptr 0 0, By s] (pxS l a) (.panic Fv) (pxS l a) := by
  refine ⟨enters_of Tryz.func113 rfl rfl, Sv Tryz.func113 rfl (Nat.le_of_ble_eq_true rfl) ?_⟩
  repeat' (first | refine rl0 ?_ | refine rs0 (fun h => ?_) (fun h => ?_) | fail)
  refine wcb (id := 0) (Aj hl h) rfl rfl rfl rfl rfl rfl rfl rfl (by repeat (first | exact Ad | refine Aa (Ab _) ?_)) rfl ?_
  repeat' (first | refine rl0 ?_ | refine rs0 (fun h => ?_) (fun h => ?_) | fail)
  refine Gu rfl (G0 rfl rfl) ?_
  exact ⟨rfl, rfl⟩
def opN (i : Nat) : Int × Int × Int × Int × ByteArray := Ok.getD i (0, 0, 0, 0, ⟨#[]⟩)
theorem Ig {i : Nat} (h : i < 20) : (Adr.drop (((i : Nat) : Int).toNat * 5)).take 5 = opP (opN i) /\ ((i : Nat) : Int).toNat * 5 + 5 <= Adr.length := by
  cases i with
  | zero => exact ⟨rfl, Nat.le_of_ble_eq_true rfl⟩
  | succ i => exact S8 (op := ((i + 1 : Nat) : Int)) (by omega) (by omega)
def Hb (l : List TkZ) (a m i : Nat) : Bool := decide ((opN i).2.2.2.1 = m) && (decide ((opN i).1 = 2) && Ba l a (opN i).2.2.2.2)
def lvM (m : Nat) : Prop := m = 1 \/ m = 2 \/ m = 4 \/ m = 5 \/ m = 6
theorem E8 (l : List TkZ) (a : Nat) {m : Nat} (hm : lvM m) : Bd l a m = ((List.range 20).find? (Hb l a m)).map Int.ofNat := by
  have e : List.range 20 = [0, 1, 2, 3, 4, 5, 6, 7, 8, 9, 10, 11, 12, 13, 14, 15, 16, 17, 18, 19] := by decide
  rw [e]
  rcases hm with rfl | rfl | rfl | rfl | rfl <;> simp [Bd, Jk, List.find?, Hb, opN, Ok]
  . cases Ba l a ⟨#[111, 114]⟩ <;> rfl
  . cases Ba l a ⟨#[97, 110, 100]⟩ <;> rfl
  . cases Ba l a ⟨#[61]⟩ <;> cases Ba l a ⟨#[33, 61]⟩ <;> cases Ba l a ⟨#[60]⟩ <;> cases Ba l a ⟨#[60, 61]⟩ <;> cases Ba l a ⟨#[62]⟩ <;> cases Ba l a ⟨#[62, 61]⟩ <;> rfl
  . cases Ba l a ⟨#[43]⟩ <;> cases Ba l a ⟨#[45]⟩ <;> rfl
  . cases Ba l a ⟨#[42]⟩ <;> cases Ba l a ⟨#[47]⟩ <;> rfl
end Go.Proofs.YtiledamgmppcmaaGreatDoor
namespace Go.Proofs.YtiledamgmppcmaaGreatDoor
open Go.RowKit
def Fd : List Nat -> Nat -> List Oper -> Bool
  | _, _, [] => true
  | D, k, o :: r => D.any (aft o) && Fd (k :: D) (k + 1) r
section
variable {P : Program} {N : Nat} {ops : Array Oper} {rest : List Oper} {o : Oper} {F : Nat -> PV} {S Sx : PS} {q : WRes -> Prop} {ch : Nat -> Bool} {U Ut : List Nat} {k : Nat} {D : List Nat} {c : Value}
theorem Gn : ∀ (rest : List Oper) (k : Nat) (F : Nat -> PV) (D : List Nat), Fd D k rest = true -> WalkA P N ops ch U Ut k rest F S true D (.panic c Sx)
  | [], _, _, _, _ => .nilX
  | o :: r, k, F, D, h => by
    simp only [Fd, Bool.and_eq_true] at h
    exact .dead h.1 (Gn r (k + 1) _ _ h.2)
theorem Qv (ho : OpX P o F S c Sx) (h : q (.panic c Sx)) (hg : Am ops F o = some true := by exact rfl) (hc : ch k = true := by exact rfl) (hd : Fd (k :: D) (k + 1) rest = true := by kernel_rfl) : WA P N ops ch U Ut k (o :: rest) F S false D q :=
  ⟨⟨_, .boom hg hc ho (Gn rest (k + 1) _ _ hd), h⟩⟩
theorem Hv {U : List Nat} {id : Nat} (h : U.any (Nat.beq id) = true) : id ∈ U := by
  obtain ⟨x, hx, h2⟩ := List.any_eq_true.1 h
  rw [Nat.eq_of_beq_eq_true h2]; exact hx
theorem Ah {S S' : PS} {a : Nat} {U Ut : List Nat} (h : S'.boxes[a]? = S.boxes[a]?) (t : Agree U Ut S S') : Agree (a :: U) Ut S S' :=
  ⟨fun id hid => (List.mem_cons.1 hid).elim (fun e => e ▸ h) (t.boxes id), t.toks⟩
theorem Kl {f : Nat} {fn : Func} {c : Code} {args : List PV} {S S' : PS} {x : Value} (hf : P.funcs[f]? = some fn) (hb : fn.body = some c) (hn : args.length <= fn.ntmps)
    (h : PW P fn.ntmps c (fun e _ S1 => e = .panic [{ v := x, recovered := false }] /\ S1.cut S.boxes.length S.toks.length = S' /\ (S1.boxes.take S.boxes.length).all (fun c => PV.ltL S.boxes.length S.toks.length c) = true) (Lr args) S) : EvC P f args S (.panic x) S' := by
  intro K w vs hI hA
  have hl := hA.length
  refine calls_of_wp hf hb (wp_mono (h.run0 K w { tmps := vs.toArray ++ Array.replicate (fn.ntmps - vs.toArray.size) undef, defers := [] } hI ⟨by simp; omega, fun t => ?_⟩) ?_)
  . have := G3 args vs (fn.ntmps - vs.toArray.size) t hA
    rw [Array.getD_eq_getD_getElem?]
    rw [List.getD_eq_getElem?_getD] at this
    rw [<- Array.getElem?_toList]
    simpa using this
  . intro e a' w' hq
    obtain ⟨K', F', S1, h1, h2, h3, h4, rfl, rfl, hall⟩ := hq
    exact ⟨h4, _, Gb hI h1 (Nat.le_refl _) (Nat.le_refl _), h2.cut hall, rfl⟩
end
theorem A1 {f : Nat} {fn : Func} {c : Code} {args : List PV} {S S' : PS} {x : Value} (hf : Tryz.prog.funcs[f]? = some fn) (hname : (fn.name == "runtime.NumGoroutine") = false) (hb : fn.body = some c) (hn : args.length <= fn.ntmps)
    (h : PW Tryz.prog fn.ntmps c (fun e _ S1 => e = .panic [{ v := x, recovered := false }] /\ S1.cut S.boxes.length S.toks.length = S' /\ (S1.boxes.take S.boxes.length).all (fun c => PV.ltL S.boxes.length S.toks.length c) = true) (Lr args) S) : An f args S (.panic x) S' :=
  ⟨enters_of hf hname hb, Kl hf hb hn h⟩
section
variable {N : Nat} {ops : Array Oper} {rest : List Oper} {o : Oper} {F : Nat -> PV} {S S' S'' : PS} {q : WRes -> Prop} {C : Prop} {r r' : PV} {ch : Nat -> Bool} {U Ut : List Nat} {k : Nat} {bm : Bool} {D : List Nat}
theorem ql2 {t : TypeId} {x : Operand} {id off : Nat} {c : List PV} (kk : WA Tryz.prog N ops ch U Ut (k + 1) rest (Ch N o.dst r' F) S bm D q) (hg : Am ops F o = some true := by exact rfl) (hc : ch k = false := by exact rfl) (ho : o.op = .load t x := by exact rfl) (hk : (Bq t && (tyi t).isRow) = true := by exact rfl) (hx : evP F x = .ptr id off := by exact rfl) (hU : U.any (Nat.beq id) = true := by exact rfl) (hb : S.boxes[id]? = some c := by exact rfl) (hle : Nat.ble (off + (tyi t).size) c.length = true := by exact rfl) (hr : PV.agg ((c.drop off).take (tyi t).size) = r' := by first | (apply Ck rfl; repeat (first | exact Bp rfl | apply Gx rfl | apply Gy rfl | apply Gz rfl)) | exact Lk rfl | (dsimp only [List.length_cons, List.length_nil, List.length_append, Nat.reduceAdd]; rfl) | rfl) : WA Tryz.prog N ops ch U Ut k (o :: rest) F S bm D q := by
  subst hr
  simp only [Bool.and_eq_true] at hk
  exact Sm hg hc (fun S' ha => Iu ho (Gl t hk.1) hk.2 hx (by rw [ha.boxes id (Hv hU)]; exact hb) hle) kk
theorem Ajg (kk : WA Tryz.prog N ops ch U Ut (k + 1) rest (Ch N o.dst r' F) S'' false D q) (hg : Am ops F o = some true := by exact rfl) (hc : ch k = true := by exact rfl) (h : Hz tyi Bq F S o.op = some (C, r, S') := by exact rfl) (hr : r = r' := by first | (apply Ck rfl; repeat (first | exact Bp rfl | apply Gx rfl | apply Gy rfl | apply Gz rfl)) | exact Lk rfl | (dsimp only [List.length_cons, List.length_nil, List.length_append, Nat.reduceAdd]; rfl) | rfl) (hS : S' = S'' := by (apply Ob rfl; repeat (first | exact Bp rfl | apply Gx rfl | apply Gy rfl | apply Gz rfl | exact Je rfl | apply Gg rfl | exact Jf rfl | apply Gh rfl | exact Np))) (hC : C := by first | exact True.intro | (simp only [IntKind.lo, IntKind.hi]; omega) | omega | decide) (ha : Agree U Ut S S'' := by repeat (first | exact Ar | refine Ah rfl ?_)) : WA Tryz.prog N ops ch U Ut k (o :: rest) F S false D q := wac hg hc h hr hS hC ha kk
end
section
variable {N : Nat} {ops : Array Oper} {rest : List Oper} {o : Oper} {F : Nat -> PV} {S S' : PS} {q : WRes -> Prop} {r : PV} {ch : Nat -> Bool} {U Ut : List Nat} {k : Nat} {D : List Nat} {c : Operand} {al : Array Operand} {ats : Array TypeId} {f : Nat} {caps args : List PV} {c0 c1 : List PV} {x : Value}
theorem wb1 (id : Nat) (hD : An f args ⟨[c0], []⟩ (.ret r) ⟨[c1], []⟩) (kk : WK Tryz.prog N ops rest (Ch N o.dst r F) S' q) (hg : Am ops F o = some true := by exact rfl) (ho : o.op = .call { callee := .value c, args := al, argTypes := ats } := by exact rfl) (hc : evP F c = .fn f caps := by exact rfl) (hbox : S.boxes[id]? = some c0 := by exact rfl) (hl0 : PV.ltL 0 0 c0 = true := by exact rfl) (hl1 : PV.ltL 0 0 c1 = true := by exact rfl) (hlr : r.lt 0 0 = true := by exact rfl)
    (hlt : PV.ltL 1 0 args = true := by exact rfl) (ha : F6 S (al.toList.map (evP F) ++ caps) (PV.renL (fbN [id]) (ftN [] S.toks.length) args) := by repeat (first | exact Ad | refine Aa (Ab _) ?_)) (hS : S.setBox id c1 = S' := by exact rfl) : WK Tryz.prog N ops (o :: rest) F S q := wcb hD hg ho hc hbox hl0 hl1 hlr hlt ha hS kk
theorem Jy (id : Nat) (hD : An f args ⟨[c0], []⟩ (.panic x) ⟨[c1], []⟩) (kk : q (.panic x S')) (hg : Am ops F o = some true := by exact rfl) (ho : o.op = .call { callee := .value c, args := al, argTypes := ats } := by exact rfl) (hc : evP F c = .fn f caps := by exact rfl) (hbox : S.boxes[id]? = some c0 := by exact rfl) (hl0 : PV.ltL 0 0 c0 = true := by exact rfl) (hl1 : PV.ltL 0 0 c1 = true := by exact rfl)
    (hlt : PV.ltL 1 0 args = true := by exact rfl) (ha : F6 S (al.toList.map (evP F) ++ caps) (PV.renL (fbN [id]) (ftN [] S.toks.length) args) := by repeat (first | exact Ad | refine Aa (Ab _) ?_)) (hS : S.setBox id c1 = S' := by exact rfl) : WK Tryz.prog N ops (o :: rest) F S q := wcbx hD hg ho hc hbox hl0 hl1 hlt ha hS kk
theorem wb1a (id : Nat) (hD : An f args ⟨[c0], []⟩ (.ret r) ⟨[c1], []⟩) (kk : WA Tryz.prog N ops ch U Ut (k + 1) rest (Ch N o.dst r F) S' false D q) (hg : Am ops F o = some true := by exact rfl) (hcc : ch k = true := by exact rfl) (ho : o.op = .call { callee := .value c, args := al, argTypes := ats } := by exact rfl) (hc : evP F c = .fn f caps := by exact rfl) (hbox : S.boxes[id]? = some c0 := by exact rfl) (hl0 : PV.ltL 0 0 c0 = true := by exact rfl) (hl1 : PV.ltL 0 0 c1 = true := by exact rfl) (hlr : r.lt 0 0 = true := by exact rfl)
    (hlt : PV.ltL 1 0 args = true := by exact rfl) (ha : F6 S (al.toList.map (evP F) ++ caps) (PV.renL (fbN [id]) (ftN [] S.toks.length) args) := by repeat (first | exact Ad | refine Aa (Ab _) ?_)) (hS : S.setBox id c1 = S' := by exact rfl) (hA : Agree U Ut S S' := by repeat (first | exact Ar | refine Ah rfl ?_)) : WA Tryz.prog N ops ch U Ut k (o :: rest) F S false D q := wcba hD hg hcc ho hc hbox hl0 hl1 hlr hlt ha hS hA kk
theorem Ado (id : Nat) (hD : An f args ⟨[c0], []⟩ (.panic x) ⟨[c1], []⟩) (kk : q (.panic x S')) (hg : Am ops F o = some true := by exact rfl) (hcc : ch k = true := by exact rfl) (ho : o.op = .call { callee := .value c, args := al, argTypes := ats } := by exact rfl) (hc : evP F c = .fn f caps := by exact rfl) (hbox : S.boxes[id]? = some c0 := by exact rfl) (hl0 : PV.ltL 0 0 c0 = true := by exact rfl) (hl1 : PV.ltL 0 0 c1 = true := by exact rfl)
    (hlt : PV.ltL 1 0 args = true := by exact rfl) (ha : F6 S (al.toList.map (evP F) ++ caps) (PV.renL (fbN [id]) (ftN [] S.toks.length) args) := by repeat (first | exact Ad | refine Aa (Ab _) ?_)) (hS : S.setBox id c1 = S' := by exact rfl) (hd : Fd (k :: D) (k + 1) rest = true := by kernel_rfl) : WA Tryz.prog N ops ch U Ut k (o :: rest) F S false D q := by
  subst hS; exact Qv (K5 hD ho hc hbox hl0 hl1 hlt ha) kk hg hcc hd
theorem wp1 (hD : An f args ⟨[], []⟩ (.ret r) ⟨[], []⟩) (kk : WK Tryz.prog N ops rest (Ch N o.dst r F) S q) (hg : Am ops F o = some true := by exact rfl) (ho : o.op = .call { callee := .value c, args := al, argTypes := ats } := by exact rfl) (hc : evP F c = .fn f caps := by exact rfl)
    (hlt : PV.ltL 0 0 args = true := by exact rfl) (hlr : r.lt 0 0 = true := by exact rfl) (ha : F6 S (al.toList.map (evP F) ++ caps) args := by repeat (first | exact Ad | refine Aa (Ab _) ?_)) : WK Tryz.prog N ops (o :: rest) F S q := D3 hD hg ho hc hlt hlr ha kk
theorem wp1a (hD : An f args ⟨[], []⟩ (.ret r) ⟨[], []⟩) {bm : Bool} (kk : WA Tryz.prog N ops ch U Ut (k + 1) rest (Ch N o.dst r F) S bm D q) (hg : Am ops F o = some true := by exact rfl) (hp : (!ch k && Ta ops ch k) = true := by first | exact rfl | kernel_rfl) (ho : o.op = .call { callee := .value c, args := al, argTypes := ats } := by exact rfl) (hc : evP F c = .fn f caps := by exact rfl)
    (hlt : PV.ltL 0 0 args = true := by exact rfl) (hlr : r.lt 0 0 = true := by exact rfl) (ha : F6 S (al.toList.map (evP F) ++ caps) args := by repeat (first | exact Ad | refine Aa (Ab _) ?_)) : WA Tryz.prog N ops ch U Ut k (o :: rest) F S bm D q := wcpp hD hg hp ho hc hlt hlr ha kk
end
theorem rl6 {G X : Prop} (h : X) (t : Hx X -> G := by (intro h; (first | refine Gw ?_ | refine q6 ?_ | refine q10 ?_ | refine q11k ?_ | refine ql1 ?_ | refine ql2 ?_ | refine q12 ?_ | refine q13k ?_ | refine Ajg ?_ | fail); (repeat' (first | refine Gw ?_ | refine q6 ?_ | refine q10 ?_ | refine q11k ?_ | refine ql1 ?_ | refine ql2 ?_ | refine q12 ?_ | refine q13k ?_ | refine Ajg ?_ | fail)); exact h.out)) : G := t ⟨h⟩
end Go.Proofs.YtiledamgmppcmaaGreatDoor
namespace Go.Proofs.YtiledamgmppcmaaGreatDoor
open Go.RowKit
def AgK (ops : Array Oper) (k : Nat) (us : List (Nat × List Nat)) (S S' : PS) : Prop := ∀ e ∈ us, Ji ops k e.1 = true -> Agree e.2 [] S S'
theorem Fk {ops : Array Oper} {k : Nat} {S S' : PS} : AgK ops k [] S S' := fun _ h => by cases h
theorem Fc {ops : Array Oper} {k j : Nat} {ids : List Nat} {us : List (Nat × List Nat)} {S S' : PS} (h : Ji ops k j = false) (t : AgK ops k us S S') : AgK ops k ((j, ids) :: us) S S' := fun e he hu => by
  rcases List.mem_cons.1 he with rfl | he
  . rw [h] at hu; cases hu
  . exact t e he hu
theorem A3 {ops : Array Oper} {k j : Nat} {ids : List Nat} {us : List (Nat × List Nat)} {S S' : PS} (h : Agree ids [] S S') (t : AgK ops k us S S') : AgK ops k ((j, ids) :: us) S S' := fun e he hu => by
  rcases List.mem_cons.1 he with rfl | he
  . exact h
  . exact t e he hu
theorem Uj {ops : Array Oper} {k : Nat} {us : List (Nat × List Nat)} {S S' : PS} (h : AgK ops k us S S') (j : Nat) (hj : Ji ops k j = true) : Agree (Az us j) [] S S' := by
  refine ⟨fun id hid => ?_, by simp⟩
  obtain ⟨e, he, h1, h2⟩ := Pw hid
  exact (h e he (by rw [h1]; exact hj)).boxes id h2
section
variable {N : Nat} {ops : Array Oper} {rest : List Oper} {o : Oper} {F : Nat -> PV} {S S' S'' : PS} {q : WRes -> Prop} {C : Prop} {r r' : PV} {Q : Exit -> (Nat -> PV) -> PS -> Prop} {ch : Nat -> Bool} {us : List (Nat × List Nat)} {k : Nat} {bm : Bool} {D : List Nat}
theorem b0 {id : Nat} {l : List Oper} (ch : Nat -> Bool) (us : List (Nat × List Nat)) (h : Bw.WB Tryz.prog N l.toArray ch (Az us) (fun _ => []) 0 l F S false [] (Alf Q)) (hm : Tryz.prog.follows .mixedOrders = true := by exact rfl) (hB : W8 l.toArray ch = true := by kernel_rfl) : PW Tryz.prog N (.region id l.toArray true) Q F S := Bw.pw_regionB ch (Az us) (fun _ => []) hm hB h
theorem b1 (h : q (.done F S)) : Bw.WB Tryz.prog N ops ch (Az us) (fun _ => []) k [] F S false D q := ⟨⟨_, .nil, h⟩⟩
theorem Ke (ho : ∀ S', Agree (Az us k) [] S S' -> OpS Tryz.prog o F S' r S') (kk : Bw.WB Tryz.prog N ops ch (Az us) (fun _ => []) (k + 1) rest (Ch N o.dst r F) S bm D q) (hg : Am ops F o = some true := by exact rfl) (hc : ch k = false := by first | exact rfl | kernel_rfl) : Bw.WB Tryz.prog N ops ch (Az us) (fun _ => []) k (o :: rest) F S bm D q := let ⟨x, h1, h2⟩ := kk.ex; ⟨⟨x, .free hg hc ho h1, h2⟩⟩
theorem bpin (ho : OpS Tryz.prog o F S r S) (kk : Bw.WB Tryz.prog N ops ch (Az us) (fun _ => []) (k + 1) rest (Ch N o.dst r F) S bm D q) (hg : Am ops F o = some true := by exact rfl) (hp : (!ch k && Ta ops ch k) = true := by first | exact rfl | kernel_rfl) : Bw.WB Tryz.prog N ops ch (Az us) (fun _ => []) k (o :: rest) F S bm D q := by
  simp only [Bool.and_eq_true, Bool.not_eq_true'] at hp
  exact let ⟨x, h1, h2⟩ := kk.ex; ⟨⟨x, .pin hg hp.1 hp.2 ho h1, h2⟩⟩
theorem Lm (ho : OpS Tryz.prog o F S r S') (kk : Bw.WB Tryz.prog N ops ch (Az us) (fun _ => []) (k + 1) rest (Ch N o.dst r F) S' false D q) (hg : Am ops F o = some true := by exact rfl) (hc : ch k = true := by first | exact rfl | kernel_rfl) (ha : AgK ops k us S S' := by repeat (first | exact Fk | refine A3 (Ah rfl Ar) ?_ | refine A3 (Ah rfl (Ah rfl Ar)) ?_ | refine A3 (Ah rfl (Ah rfl (Ah rfl Ar))) ?_ | refine A3 (Ah rfl (Ah rfl (Ah rfl (Ah rfl Ar)))) ?_ | refine Fc (by kernel_rfl) ?_)) : Bw.WB Tryz.prog N ops ch (Az us) (fun _ => []) k (o :: rest) F S false D q := let ⟨x, h1, h2⟩ := kk.ex; ⟨⟨x, .chain hg hc ho (fun j hj => Uj ha j hj) h1, h2⟩⟩
theorem Uo {c : Value} {Sx : PS} : ∀ (rest : List Oper) (k : Nat) (F : Nat -> PV) (D : List Nat), Fd D k rest = true -> Bw.WalkA Tryz.prog N ops ch (Az us) (fun _ => []) k rest F S true D (.panic c Sx)
  | [], _, _, _, _ => .nilX
  | o :: r, k, F, D, h => by
    simp only [Fd, Bool.and_eq_true] at h
    exact .dead h.1 (Uo r (k + 1) _ _ h.2)
theorem Abm {c : Value} {Sx : PS} (ho : OpX Tryz.prog o F S c Sx) (h : q (.panic c Sx)) (hg : Am ops F o = some true := by exact rfl) (hc : ch k = true := by first | exact rfl | kernel_rfl) (hd : Fd (k :: D) (k + 1) rest = true := by kernel_rfl) : Bw.WB Tryz.prog N ops ch (Az us) (fun _ => []) k (o :: rest) F S false D q := ⟨⟨_, .boom hg hc ho (Uo rest (k + 1) _ _ hd), h⟩⟩
theorem b3 (kk : Bw.WB Tryz.prog N ops ch (Az us) (fun _ => []) (k + 1) rest (Ch N o.dst r F) S bm D q) (hg : Am ops F o = some true := by exact rfl) (hc : ch k = false := by first | exact rfl | kernel_rfl) (h : ∀ S', Agree (Az us k) [] S S' -> Le tyi Bq F S' o.op = some (C, r, S') := by exact fun _ _ => rfl) (hC : C := by first | exact True.intro | (simp only [IntKind.lo, IntKind.hi]; omega) | omega | decide) : Bw.WB Tryz.prog N ops ch (Az us) (fun _ => []) k (o :: rest) F S bm D q := Ke (fun S' ha => Jw Gl (h S' ha) hC) kk hg hc
theorem b5 {t : TypeId} {x : Operand} {id off : Nat} {c : List PV} {p : PV} (kk : Bw.WB Tryz.prog N ops ch (Az us) (fun _ => []) (k + 1) rest (Ch N o.dst p F) S bm D q) (hg : Am ops F o = some true := by exact rfl) (hc : ch k = false := by first | exact rfl | kernel_rfl) (ho : o.op = .load t x := by exact rfl) (hk : (Bq t && !(tyi t).isRow) = true := by exact rfl) (hx : evP F x = .ptr id off := by exact rfl) (hU : (Az us k).any (Nat.beq id) = true := by first | exact rfl | kernel_rfl) (hb : S.boxes[id]? = some c := by exact rfl) (hpp : c[off]? = some p := by exact rfl) : Bw.WB Tryz.prog N ops ch (Az us) (fun _ => []) k (o :: rest) F S bm D q := by
  simp only [Bool.and_eq_true, Bool.not_eq_true'] at hk
  exact Ke (fun S' ha => Qj ho (Gl t hk.1) hk.2 hx (by rw [ha.boxes id (Hv hU)]; exact hb) hpp) kk hg hc
theorem b6 {t : TypeId} {x : Operand} {id off : Nat} {c : List PV} (kk : Bw.WB Tryz.prog N ops ch (Az us) (fun _ => []) (k + 1) rest (Ch N o.dst r' F) S bm D q) (hg : Am ops F o = some true := by exact rfl) (hc : ch k = false := by first | exact rfl | kernel_rfl) (ho : o.op = .load t x := by exact rfl) (hk : (Bq t && (tyi t).isRow) = true := by exact rfl) (hx : evP F x = .ptr id off := by exact rfl) (hU : (Az us k).any (Nat.beq id) = true := by first | exact rfl | kernel_rfl) (hb : S.boxes[id]? = some c := by exact rfl) (hle : Nat.ble (off + (tyi t).size) c.length = true := by exact rfl) (hr : PV.agg ((c.drop off).take (tyi t).size) = r' := by first | (apply Ck rfl; repeat (first | exact Bp rfl | apply Gx rfl | apply Gy rfl | apply Gz rfl)) | exact Lk rfl | (dsimp only [List.length_cons, List.length_nil, List.length_append, Nat.reduceAdd]; rfl) | rfl) : Bw.WB Tryz.prog N ops ch (Az us) (fun _ => []) k (o :: rest) F S bm D q := by
  subst hr
  simp only [Bool.and_eq_true] at hk
  exact Ke (fun S' ha => Iu ho (Gl t hk.1) hk.2 hx (by rw [ha.boxes id (Hv hU)]; exact hb) hle) kk hg hc
theorem b7 (kk : Bw.WB Tryz.prog N ops ch (Az us) (fun _ => []) (k + 1) rest (Ch N o.dst r' F) S bm D q) (hg : Am ops F o = some true := by exact rfl) (hc : ch k = false := by first | exact rfl | kernel_rfl) (h : ∀ S', Agree (Az us k) [] S S' -> Hz tyi Bq F S' o.op = some (C, r, S') := by exact fun _ _ => rfl) (hr : r = r' := by first | (apply Ck rfl; repeat (first | exact Bp rfl | apply Gx rfl | apply Gy rfl | apply Gz rfl)) | exact Lk rfl | (dsimp only [List.length_cons, List.length_nil, List.length_append, Nat.reduceAdd]; rfl) | rfl) (hC : C := by first | exact True.intro | (simp only [IntKind.lo, IntKind.hi]; omega) | omega | decide) : Bw.WB Tryz.prog N ops ch (Az us) (fun _ => []) k (o :: rest) F S bm D q := by
  subst hr; exact Ke (fun S' ha => Ga Gl (h S' ha) hC) kk hg hc
theorem b9 (kk : Bw.WB Tryz.prog N ops ch (Az us) (fun _ => []) (k + 1) rest (Ch N o.dst r' F) S'' false D q) (hg : Am ops F o = some true := by exact rfl) (hc : ch k = true := by first | exact rfl | kernel_rfl) (h : Hz tyi Bq F S o.op = some (C, r, S') := by exact rfl) (hr : r = r' := by first | (apply Ck rfl; repeat (first | exact Bp rfl | apply Gx rfl | apply Gy rfl | apply Gz rfl)) | exact Lk rfl | (dsimp only [List.length_cons, List.length_nil, List.length_append, Nat.reduceAdd]; rfl) | rfl) (hS : S' = S'' := by (apply Ob rfl; repeat (first | exact Bp rfl | apply Gx rfl | apply Gy rfl | apply Gz rfl | exact Je rfl | apply Gg rfl | exact Jf rfl | apply Gh rfl | exact Np))) (hC : C := by first | exact True.intro | (simp only [IntKind.lo, IntKind.hi]; omega) | omega | decide) (ha : AgK ops k us S S'' := by repeat (first | exact Fk | refine A3 (Ah rfl Ar) ?_ | refine A3 (Ah rfl (Ah rfl Ar)) ?_ | refine A3 (Ah rfl (Ah rfl (Ah rfl Ar))) ?_ | refine A3 (Ah rfl (Ah rfl (Ah rfl (Ah rfl Ar)))) ?_ | refine Fc (by kernel_rfl) ?_)) : Bw.WB Tryz.prog N ops ch (Az us) (fun _ => []) k (o :: rest) F S false D q := by
  subst hr; subst hS; exact Lm (Ga Gl h hC) kk hg hc ha
theorem Tk {t : TypeId} {x y : Operand} {l : List (List DV)} {kd : IntKind} {j : Int} (e : List DV) (he : l[j.toNat]? = some e) (h0 : 0 <= j) (kk : Bw.WB Tryz.prog N ops ch (Az us) (fun _ => []) (k + 1) rest (Ch N o.dst (.ep e) F) S bm D q) (hg : Am ops F o = some true := by exact rfl) (hc : ch k = false := by first | exact rfl | kernel_rfl) (ho : o.op = .indexAddr t x y := by exact rfl) (hk : (Bq t && Nat.beq (tyi t).kind 2) = true := by exact rfl) (hx : ∀ S' : PS, S'.toS (tyi t).ek (evP F x) = some l := by exact fun _ => rfl) (hy : evP F y = .d (.v (.int kd j)) := by exact rfl) : Bw.WB Tryz.prog N ops ch (Az us) (fun _ => []) k (o :: rest) F S bm D q := by
  simp only [Bool.and_eq_true] at hk
  exact Ke (fun S' _ => I4 ho (Gl t hk.1) (Nat.eq_of_beq_eq_true hk.2) (hx S') hy h0 he) kk hg hc
variable {c : Operand} {al : Array Operand} {ats : Array TypeId} {f : Nat} {caps args : List PV} {c0 c1 : List PV} {x : Value}
theorem P7 (hD : An f args ⟨[], []⟩ (.ret r) ⟨[], []⟩) (kk : Bw.WB Tryz.prog N ops ch (Az us) (fun _ => []) (k + 1) rest (Ch N o.dst r F) S bm D q) (hg : Am ops F o = some true := by exact rfl) (ho : o.op = .call { callee := .value c, args := al, argTypes := ats } := by exact rfl) (hv : evP F c = .fn f caps := by exact rfl) (hlt : PV.ltL 0 0 args = true := by exact rfl) (hlr : r.lt 0 0 = true := by exact rfl) (ha : F6 S (al.toList.map (evP F) ++ caps) args := by repeat (first | exact Ad | refine Aa (Ab _) ?_)) (hp : (!ch k && Ta ops ch k) = true := by first | exact rfl | kernel_rfl) : Bw.WB Tryz.prog N ops ch (Az us) (fun _ => []) k (o :: rest) F S bm D q := by
  have h := L6 ho hD.1 hv hlt ha hD.2
  rw [Q1 r hlr] at h
  exact bpin h kk hg hp
theorem Z3 (id : Nat) (hD : An f args ⟨[c0], []⟩ (.ret r) ⟨[c1], []⟩) (kk : Bw.WB Tryz.prog N ops ch (Az us) (fun _ => []) (k + 1) rest (Ch N o.dst r F) S' false D q) (hg : Am ops F o = some true := by exact rfl) (ho : o.op = .call { callee := .value c, args := al, argTypes := ats } := by exact rfl) (hv : evP F c = .fn f caps := by exact rfl) (hb : S.boxes[id]? = some c0 := by exact rfl) (hl0 : PV.ltL 0 0 c0 = true := by exact rfl) (hl1 : PV.ltL 0 0 c1 = true := by exact rfl) (hlr : r.lt 0 0 = true := by exact rfl) (hlt : PV.ltL 1 0 args = true := by exact rfl) (ha : F6 S (al.toList.map (evP F) ++ caps) (PV.renL (fbN [id]) (ftN [] S.toks.length) args) := by repeat (first | exact Ad | refine Aa (Ab _) ?_)) (hS : S.setBox id c1 = S' := by exact rfl) (hc : ch k = true := by first | exact rfl | kernel_rfl) (hA : AgK ops k us S S' := by repeat (first | exact Fk | refine A3 (Ah rfl Ar) ?_ | refine A3 (Ah rfl (Ah rfl Ar)) ?_ | refine A3 (Ah rfl (Ah rfl (Ah rfl Ar))) ?_ | refine A3 (Ah rfl (Ah rfl (Ah rfl (Ah rfl Ar)))) ?_ | refine Fc (by kernel_rfl) ?_)) : Bw.WB Tryz.prog N ops ch (Az us) (fun _ => []) k (o :: rest) F S false D q := by
  subst hS; exact Lm (K3 hD ho hv hb hl0 hl1 hlr hlt ha) kk hg hc hA
theorem Un (id : Nat) (hD : An f args ⟨[c0], []⟩ (.panic x) ⟨[c1], []⟩) (kk : q (.panic x S')) (hg : Am ops F o = some true := by exact rfl) (ho : o.op = .call { callee := .value c, args := al, argTypes := ats } := by exact rfl) (hv : evP F c = .fn f caps := by exact rfl) (hb : S.boxes[id]? = some c0 := by exact rfl) (hl0 : PV.ltL 0 0 c0 = true := by exact rfl) (hl1 : PV.ltL 0 0 c1 = true := by exact rfl) (hlt : PV.ltL 1 0 args = true := by exact rfl) (ha : F6 S (al.toList.map (evP F) ++ caps) (PV.renL (fbN [id]) (ftN [] S.toks.length) args) := by repeat (first | exact Ad | refine Aa (Ab _) ?_)) (hS : S.setBox id c1 = S' := by exact rfl) (hc : ch k = true := by first | exact rfl | kernel_rfl) (hd : Fd (k :: D) (k + 1) rest = true := by kernel_rfl) : Bw.WB Tryz.prog N ops ch (Az us) (fun _ => []) k (o :: rest) F S false D q := by
  subst hS; exact Abm (K5 hD ho hv hb hl0 hl1 hlt ha) kk hg hc hd
end
theorem rl7 {G X : Prop} (h : X) (t : Hx X -> G := by (intro h; (first | refine b1 ?_ | refine b2 ?_ | refine b3 ?_ | refine b5 ?_ | refine b6 ?_ | refine b7 ?_ | refine b9 ?_ | refine b4 ?_ | refine b8 ?_ | fail); (repeat' (first | refine b1 ?_ | refine b2 ?_ | refine b3 ?_ | refine b5 ?_ | refine b6 ?_ | refine b7 ?_ | refine b9 ?_ | refine b4 ?_ | refine b8 ?_ | fail)); exact h.out)) : G := t ⟨h⟩
end Go.Proofs.YtiledamgmppcmaaGreatDoor
namespace Go.Proofs.YtiledamgmppcmaaGreatDoor
open Go.RowKit
@[reducible] def rdS (l : List TkZ) (a : Nat) (b : Bool) : PS := ⟨[[.d (.sl 3 (l.map tkR)), Ai a, A7 b]], []⟩
def D5 (l : List TkZ) : Prop := ∀ t ∈ l, t.1 = 1 \/ t.1 = 2 \/ t.1 = 3 \/ t.1 = 4
def isR (l : List TkZ) (a : Nat) (b : Bool) (s : ByteArray) : Bool := !b && Ba l a s
theorem Ab5 {l : List TkZ} {s : ByteArray} {a : Nat} {b : Bool} (hk : D5 l) : An 154 [.ptr 0 0, By s] (rdS l a b) (.ret (A7 (isR l a b s))) (rdS l a b) := by
  unfold isR
  cases b with
  | true =>
    refine Af Tryz.func154 rfl rfl (Nat.le_of_ble_eq_true rfl) rfl (Nat.le_refl _) ?_
    repeat' (first | refine rl0 ?_ | refine rs0 (fun h => ?_) (fun h => ?_) | fail)
    rfl
  | false =>
  show An _ _ _ (.ret (A7 (Ba l a s))) _
  by_cases hlt : a < l.length
  . obtain ⟨t, ht⟩ : ∃ t, l[a]? = some t := ⟨_, List.getElem?_eq_getElem hlt⟩
    have hkt := hk t (List.mem_of_getElem? ht)
    rw [G9 ht]
    refine Af Tryz.func154 rfl rfl (Nat.le_of_ble_eq_true rfl) rfl (Nat.le_refl _) ?_
    repeat' (first | refine rl0 ?_ | refine rs0 (fun h => ?_) (fun h => ?_) | fail)
    . refine Ib _ rfl rfl rfl rfl rfl (B4 ht) (by omega) ?_
      repeat' (first | refine rl0 ?_ | refine rs0 (fun h => ?_) (fun h => ?_) | fail)
      . refine Ib _ rfl rfl rfl rfl rfl (B4 ht) (by omega) ?_
        repeat' (first | refine rl0 ?_ | refine rs0 (fun h => ?_) (fun h => ?_) | fail)
        . refine Ib _ rfl rfl rfl rfl rfl (B4 ht) (by omega) ?_
          repeat' (first | refine rl0 ?_ | refine rs0 (fun h => ?_) (fun h => ?_) | fail)
          have h1 : t.2.1 = s := by simp_all
          have h2 : ¬ t.1 = 1 := by simp_all
          show A7 _ = A7 _
          congr 3
          simp only [h1, decide_true, Bool.true_and]
          by_cases h3 : t.1 = 3
          . simp [h3]
          . have : t.1 = 2 \/ t.1 = 4 := by omega
            rcases this with h | h <;> simp [h]
        . have h2 : t.1 = 1 := by simp_all
          simp [h2]
      . have h1 : ¬ t.2.1 = s := by simp_all
        simp [h1]
    . exfalso; simp at h; omega
  . rw [Kn (by omega)]
    refine Af Tryz.func154 rfl rfl (Nat.le_of_ble_eq_true rfl) rfl (Nat.le_refl _) ?_
    repeat' (first | refine rl0 ?_ | refine rs0 (fun h => ?_) (fun h => ?_) | fail)
    . exfalso; simp at h; omega
    . rfl
theorem Qn {l : List TkZ} {s : ByteArray} {a : Nat} {b : Bool} (hl : l.length <= 9223372036854775806) (hk : D5 l) : An 115 [.ptr 0 0, By s] (rdS l a b) (.ret (A7 (isR l a b s))) (rdS l (if isR l a b s = true then a + 1 else a) b) := by
  have h := Ab5 (s := s) (a := a) (b := b) hk
  cases e : isR l a b s with
  | true =>
    rw [e] at h
    have hlt : a < l.length := by
      unfold isR at e
      simp only [Bool.and_eq_true] at e
      exact Bs e.2
    rw [if_pos rfl]
    refine Af Tryz.func115 rfl rfl (Nat.le_of_ble_eq_true rfl) rfl (Nat.le_refl _) ?_
    repeat' (first | refine rl0 ?_ | refine rs0 (fun h => ?_) (fun h => ?_) | fail)
    refine wb1 0 h ?_
    repeat' (first | refine rl0 ?_ | refine rs0 (fun h => ?_) (fun h => ?_) | fail)
    rfl
  | false =>
    rw [e] at h
    rw [if_neg (by simp)]
    refine Af Tryz.func115 rfl rfl (Nat.le_of_ble_eq_true rfl) rfl (Nat.le_refl _) ?_
    repeat' (first | refine rl0 ?_ | refine rs0 (fun h => ?_) (fun h => ?_) | fail)
    refine wb1 0 h ?_
    repeat' (first | refine rl0 ?_ | refine rs0 (fun h => ?_) (fun h => ?_) | fail)
    rfl
theorem Qm {l : List TkZ} {s : ByteArray} {a : Nat} {b : Bool} (hl : l.length <= 9223372036854775806) (hk : D5 l) : An 117 [.ptr 0 0, By s] (rdS l a b) (.ret (.tup [])) (if isR l a b s = true then rdS l (a + 1) b else rdS l a true) := by
  have h := Qn (s := s) (a := a) (b := b) hl hk
  cases e : isR l a b s with
  | true =>
    rw [e, if_pos rfl] at h
    rw [if_pos rfl]
    refine Af Tryz.func117 rfl rfl (Nat.le_of_ble_eq_true rfl) rfl (Nat.le_refl _) ?_
    repeat' (first | refine rl0 ?_ | refine rs0 (fun h => ?_) (fun h => ?_) | fail)
    refine wb1 0 h ?_
    repeat' (first | refine rl0 ?_ | refine rs0 (fun h => ?_) (fun h => ?_) | fail)
    rfl
  | false =>
    rw [e, if_neg (by simp)] at h
    rw [if_neg (by simp)]
    refine Af Tryz.func117 rfl rfl (Nat.le_of_ble_eq_true rfl) rfl (Nat.le_refl _) ?_
    repeat' (first | refine rl0 ?_ | refine rs0 (fun h => ?_) (fun h => ?_) | fail)
    refine wb1 0 h ?_
    repeat' (first | refine rl0 ?_ | refine rs0 (fun h => ?_) (fun h => ?_) | fail)
    rfl
def lvR (m : Nat) : Nat := if m = 1 then 0 else if m = 2 then 1 else if m = 5 then 2 else 3
@[reducible] def biS (l : List TkZ) (a : Nat) (b : Bool) : PS := ⟨[[.d (.sl 3 (l.map tkR)), Ai a, A7 b], [By ⟨#[111, 114]⟩, By ⟨#[]⟩, By ⟨#[97, 110, 100]⟩, By ⟨#[]⟩, By ⟨#[43]⟩, By ⟨#[45]⟩, By ⟨#[42]⟩, By ⟨#[47]⟩], [Ai 18, Ai 0, Ai 17, Ai 0, Ai 7, Ai 8, Ai 9, Ai 10]], []⟩
@[reducible] def biL (v : Nat) (k : Nat) : List (Nat × PV) := [(0, .ptr 0 0), (1, Ai v), (5, .ptr 1 0), (6, .ptr 2 0), (7, Ai k)]
theorem Yd {l : List TkZ} {a : Nat} {b : Bool} (hk : D5 l) {v : Nat} {s0 : ByteArray} {o0 : Int} (hv : v = 0 /\ s0 = ⟨#[111, 114]⟩ /\ o0 = 18 \/ v = 1 /\ s0 = ⟨#[97, 110, 100]⟩ /\ o0 = 17) : An 156 [.ptr 0 0, Ai v] (rdS l a b) (.ret (Ai (if isR l a b s0 = true then o0 else 0))) (rdS l a b) := by
  have h0 := Ab5 (s := s0) (a := a) (b := b) hk
  cases e : isR l a b s0 with
  | true =>
    rw [e] at h0
    rw [if_pos rfl]
    rcases hv with ⟨rfl, rfl, rfl⟩ | ⟨rfl, rfl, rfl⟩
    all_goals
      refine Af Tryz.func156 rfl rfl (Nat.le_of_ble_eq_true rfl) rfl (Nat.le_refl _) ?_
      repeat' (first | refine rl0 ?_ | refine rs0 (fun h => ?_) (fun h => ?_) | fail)
      refine Bt (ι := Nat) (ok := fun k => k = 0) (L := biL _) (Sx := fun _ => biS l a b) (μ := fun _ => 0) 0 rfl (by repeat (first | exact Ag | refine Ac rfl ?_)) rfl ?_
      rintro k rfl
      repeat' (first | refine rl0 ?_ | refine rs0 (fun h => ?_) (fun h => ?_) | fail)
      refine wb1 0 h0 ?_
      repeat' (first | refine rl0 ?_ | refine rs0 (fun h => ?_) (fun h => ?_) | fail)
      rfl
  | false =>
    rw [e] at h0
    rw [if_neg (by simp)]
    rcases hv with ⟨rfl, rfl, rfl⟩ | ⟨rfl, rfl, rfl⟩
    all_goals
      refine Af Tryz.func156 rfl rfl (Nat.le_of_ble_eq_true rfl) rfl (Nat.le_refl _) ?_
      repeat' (first | refine rl0 ?_ | refine rs0 (fun h => ?_) (fun h => ?_) | fail)
      refine Bt (ι := Nat) (ok := fun k => k <= 2) (L := biL _) (Sx := fun _ => biS l a b) (μ := fun k => 2 - k) 0 (by omega) (by repeat (first | exact Ag | refine Ac rfl ?_)) rfl ?_
      intro k hk2
      have hkc : k = 0 \/ k = 1 \/ k = 2 := by omega
      rcases hkc with rfl | rfl | rfl
      . repeat' (first | refine rl0 ?_ | refine rs0 (fun h => ?_) (fun h => ?_) | fail)
        refine wb1 0 h0 ?_
        repeat' (first | refine rl0 ?_ | refine rs0 (fun h => ?_) (fun h => ?_) | fail)
        exact ⟨1, by omega, by omega, (by repeat (first | exact Ag | refine Ac rfl ?_)), rfl⟩
      . repeat' (first | refine rl0 ?_ | refine rs0 (fun h => ?_) (fun h => ?_) | fail)
        exact ⟨2, by omega, by omega, (by repeat (first | exact Ag | refine Ac rfl ?_)), rfl⟩
      . repeat' (first | refine rl0 ?_ | refine rs0 (fun h => ?_) (fun h => ?_) | fail)
        rfl
theorem Ye {l : List TkZ} {a : Nat} {b : Bool} (hk : D5 l) {v : Nat} {s0 s1 : ByteArray} {o0 o1 : Int} (hv : v = 2 /\ s0 = ⟨#[43]⟩ /\ s1 = ⟨#[45]⟩ /\ o0 = 7 /\ o1 = 8 \/ v = 3 /\ s0 = ⟨#[42]⟩ /\ s1 = ⟨#[47]⟩ /\ o0 = 9 /\ o1 = 10) :
    An 156 [.ptr 0 0, Ai v] (rdS l a b) (.ret (Ai (if isR l a b s0 = true then o0 else if isR l a b s1 = true then o1 else 0))) (rdS l a b) := by
  have h0 := Ab5 (s := s0) (a := a) (b := b) hk
  have h1 := Ab5 (s := s1) (a := a) (b := b) hk
  cases e : isR l a b s0 with
  | true =>
    rw [e] at h0
    rw [if_pos rfl]
    rcases hv with ⟨rfl, rfl, rfl, rfl, rfl⟩ | ⟨rfl, rfl, rfl, rfl, rfl⟩
    all_goals
      refine Af Tryz.func156 rfl rfl (Nat.le_of_ble_eq_true rfl) rfl (Nat.le_refl _) ?_
      repeat' (first | refine rl0 ?_ | refine rs0 (fun h => ?_) (fun h => ?_) | fail)
      refine Bt (ι := Nat) (ok := fun k => k = 0) (L := biL _) (Sx := fun _ => biS l a b) (μ := fun _ => 0) 0 rfl (by repeat (first | exact Ag | refine Ac rfl ?_)) rfl ?_
      rintro k rfl
      repeat' (first | refine rl0 ?_ | refine rs0 (fun h => ?_) (fun h => ?_) | fail)
      refine wb1 0 h0 ?_
      repeat' (first | refine rl0 ?_ | refine rs0 (fun h => ?_) (fun h => ?_) | fail)
      rfl
  | false =>
    rw [e] at h0
    rw [if_neg (by simp)]
    cases e1 : isR l a b s1 with
    | true =>
      rw [e1] at h1
      rw [if_pos rfl]
      rcases hv with ⟨rfl, rfl, rfl, rfl, rfl⟩ | ⟨rfl, rfl, rfl, rfl, rfl⟩
      all_goals
        refine Af Tryz.func156 rfl rfl (Nat.le_of_ble_eq_true rfl) rfl (Nat.le_refl _) ?_
        repeat' (first | refine rl0 ?_ | refine rs0 (fun h => ?_) (fun h => ?_) | fail)
        refine Bt (ι := Nat) (ok := fun k => k <= 1) (L := biL _) (Sx := fun _ => biS l a b) (μ := fun k => 2 - k) 0 (by omega) (by repeat (first | exact Ag | refine Ac rfl ?_)) rfl ?_
        intro k hk2
        have hkc : k = 0 \/ k = 1 := by omega
        rcases hkc with rfl | rfl
        . repeat' (first | refine rl0 ?_ | refine rs0 (fun h => ?_) (fun h => ?_) | fail)
          refine wb1 0 h0 ?_
          repeat' (first | refine rl0 ?_ | refine rs0 (fun h => ?_) (fun h => ?_) | fail)
          exact ⟨1, by omega, by omega, (by repeat (first | exact Ag | refine Ac rfl ?_)), rfl⟩
        . repeat' (first | refine rl0 ?_ | refine rs0 (fun h => ?_) (fun h => ?_) | fail)
          refine wb1 0 h1 ?_
          repeat' (first | refine rl0 ?_ | refine rs0 (fun h => ?_) (fun h => ?_) | fail)
          rfl
    | false =>
      rw [e1] at h1
      rw [if_neg (by simp)]
      rcases hv with ⟨rfl, rfl, rfl, rfl, rfl⟩ | ⟨rfl, rfl, rfl, rfl, rfl⟩
      all_goals
        refine Af Tryz.func156 rfl rfl (Nat.le_of_ble_eq_true rfl) rfl (Nat.le_refl _) ?_
        repeat' (first | refine rl0 ?_ | refine rs0 (fun h => ?_) (fun h => ?_) | fail)
        refine Bt (ι := Nat) (ok := fun k => k <= 2) (L := biL _) (Sx := fun _ => biS l a b) (μ := fun k => 2 - k) 0 (by omega) (by repeat (first | exact Ag | refine Ac rfl ?_)) rfl ?_
        intro k hk2
        have hkc : k = 0 \/ k = 1 \/ k = 2 := by omega
        rcases hkc with rfl | rfl | rfl
        . repeat' (first | refine rl0 ?_ | refine rs0 (fun h => ?_) (fun h => ?_) | fail)
          refine wb1 0 h0 ?_
          repeat' (first | refine rl0 ?_ | refine rs0 (fun h => ?_) (fun h => ?_) | fail)
          exact ⟨1, by omega, by omega, (by repeat (first | exact Ag | refine Ac rfl ?_)), rfl⟩
        . repeat' (first | refine rl0 ?_ | refine rs0 (fun h => ?_) (fun h => ?_) | fail)
          refine wb1 0 h1 ?_
          repeat' (first | refine rl0 ?_ | refine rs0 (fun h => ?_) (fun h => ?_) | fail)
          exact ⟨2, by omega, by omega, (by repeat (first | exact Ag | refine Ac rfl ?_)), rfl⟩
        . repeat' (first | refine rl0 ?_ | refine rs0 (fun h => ?_) (fun h => ?_) | fail)
          rfl
theorem Ad3 {l : List TkZ} {a : Nat} {b : Bool} (hk : D5 l) {m : Nat} (hm : m = 1 \/ m = 2 \/ m = 5 \/ m = 6) : An 156 [.ptr 0 0, Ai (lvR m)] (rdS l a b) (.ret (Ai (if b = true then 0 else (Bd l a m).getD 0))) (rdS l a b) := by
  rcases hm with rfl | rfl | rfl | rfl
  . have h := Yd (a := a) (b := b) hk (.inl ⟨rfl, rfl, rfl⟩)
    have e : (if isR l a b ⟨#[111, 114]⟩ = true then (18 : Int) else 0) = if b = true then 0 else (Bd l a 1).getD 0 := by
      unfold isR Bd Jk
      cases b <;> simp [List.find?] <;> (cases Ba l a ⟨#[111, 114]⟩ <;> rfl)
    rw [e] at h; exact h
  . have h := Yd (a := a) (b := b) hk (.inr ⟨rfl, rfl, rfl⟩)
    have e : (if isR l a b ⟨#[97, 110, 100]⟩ = true then (17 : Int) else 0) = if b = true then 0 else (Bd l a 2).getD 0 := by
      unfold isR Bd Jk
      cases b <;> simp [List.find?] <;> (cases Ba l a ⟨#[97, 110, 100]⟩ <;> rfl)
    rw [e] at h; exact h
  . have h := Ye (a := a) (b := b) hk (.inl ⟨rfl, rfl, rfl, rfl, rfl⟩)
    have e : (if isR l a b ⟨#[43]⟩ = true then (7 : Int) else if isR l a b ⟨#[45]⟩ = true then 8 else 0) = if b = true then 0 else (Bd l a 5).getD 0 := by
      unfold isR Bd Jk
      cases b <;> simp [List.find?] <;> (cases Ba l a ⟨#[43]⟩ <;> cases Ba l a ⟨#[45]⟩ <;> rfl)
    rw [e] at h; exact h
  . have h := Ye (a := a) (b := b) hk (.inr ⟨rfl, rfl, rfl, rfl, rfl⟩)
    have e : (if isR l a b ⟨#[42]⟩ = true then (9 : Int) else if isR l a b ⟨#[47]⟩ = true then 10 else 0) = if b = true then 0 else (Bd l a 6).getD 0 := by
      unfold isR Bd Jk
      cases b <;> simp [List.find?] <;> (cases Ba l a ⟨#[42]⟩ <;> cases Ba l a ⟨#[47]⟩ <;> rfl)
    rw [e] at h; exact h
end Go.Proofs.YtiledamgmppcmaaGreatDoor
namespace Go.Proofs.YtiledamgmppcmaaGreatDoor
open Go.RowKit
@[reducible] def opL (m : Nat) (i : Nat) : List (Nat × PV) := [(0, .ptr 0 0), (1, Ai m), (8, .agg Adr), (9, Ai i)]
theorem Ky {l : List TkZ} {a m : Nat} (hm : lvM m) (hl : l.length <= 9223372036854775806) (h : Bd l a m = none) : An 153 [.ptr 0 0, Ai m] (pxS l a) (.ret (.tup [Ai 0, A7 false])) (pxS l a) := by
  rw [E8 l a hm, Option.map_eq_none_iff] at h
  have hno : ∀ i, i < 20 -> Hb l a m i = false := fun i hi => by
    have := List.find?_eq_none.1 h i (List.mem_range.2 hi); simpa using this
  refine Af Tryz.func153 rfl rfl (Nat.le_of_ble_eq_true rfl) rfl (Nat.le_refl _) ?_
  repeat' (first | refine rl0 ?_ | refine rs0 (fun h => ?_) (fun h => ?_) | fail)
  refine D3 Et rfl rfl rfl rfl rfl (by repeat (first | exact Ad | refine Aa (Ab _) ?_)) ?_
  repeat' (first | refine rl0 ?_ | refine rs0 (fun h => ?_) (fun h => ?_) | fail)
  refine F9 (ι := Nat) (ok := fun i => i <= 20) (L := opL m) (Sx := fun _ => pxS l a) (μ := fun i => 20 - i) 0 (Nat.zero_le _) (by repeat (first | exact Ag | refine Ac rfl ?_)) rfl ?_
  intro i hi
  repeat' (first | refine rl0 ?_ | refine rs0 (fun h => ?_) (fun h => ?_) | fail)
  . have hlt : i < 20 := by simp at h; omega
    have hn := hno i hlt
    unfold Hb at hn
    refine wiv (opP (opN i)) rfl rfl rfl rfl rfl ⟨by omega, by show (i : Int) < 20; omega⟩ (Ig hlt) ?_
    repeat' (first | refine rl0 ?_ | refine rs0 (fun h => ?_) (fun h => ?_) | fail)
    . have hb : Ba l a (opN i).2.2.2.2 = false := by simp_all
      refine wcb (id := 0) (Aj hl hb) rfl rfl rfl rfl rfl rfl rfl rfl (by repeat (first | exact Ad | refine Aa (Ab _) ?_)) rfl ?_
      repeat' (first | refine rl0 ?_ | refine rs0 (fun h => ?_) (fun h => ?_) | fail)
      exact ⟨i + 1, by omega, by omega, (by repeat (first | exact Ag | refine Ac rfl ?_)), rfl, rfl, rfl, Nat.le_refl _, Nat.le_refl _⟩
    . exact ⟨i + 1, by omega, by omega, (by repeat (first | exact Ag | refine Ac rfl ?_)), rfl, rfl, rfl, Nat.le_refl _, Nat.le_refl _⟩
    . exact ⟨i + 1, by omega, by omega, (by repeat (first | exact Ag | refine Ac rfl ?_)), rfl, rfl, rfl, Nat.le_refl _, Nat.le_refl _⟩
  . rfl
theorem Db {l : List TkZ} {a m : Nat} {op : Int} (hm : lvM m) (hl : l.length <= 9223372036854775806) (h : Bd l a m = some op) : An 153 [.ptr 0 0, Ai m] (pxS l a) (.ret (.tup [Ai op, A7 true])) (pxS l (a + 1)) := by
  rw [E8 l a hm] at h
  obtain ⟨k, hk, rfl⟩ := Option.map_eq_some_iff.1 h
  rw [List.find?_range_eq_some] at hk
  obtain ⟨hk1, hk2, hk3⟩ := hk
  have hk2 : k < 20 := by simpa using hk2
  have hno : ∀ i, i < k -> Hb l a m i = false := fun i hi => by simpa using hk3 i hi
  refine Af Tryz.func153 rfl rfl (Nat.le_of_ble_eq_true rfl) rfl (Nat.le_refl _) ?_
  repeat' (first | refine rl0 ?_ | refine rs0 (fun h => ?_) (fun h => ?_) | fail)
  refine D3 Et rfl rfl rfl rfl rfl (by repeat (first | exact Ad | refine Aa (Ab _) ?_)) ?_
  repeat' (first | refine rl0 ?_ | refine rs0 (fun h => ?_) (fun h => ?_) | fail)
  refine F9 (ι := Nat) (ok := fun i => i <= k) (L := opL m) (Sx := fun _ => pxS l a) (μ := fun i => k - i) 0 (Nat.zero_le _) (by repeat (first | exact Ag | refine Ac rfl ?_)) rfl ?_
  intro i hi
  repeat' (first | refine rl0 ?_ | refine rs0 (fun h => ?_) (fun h => ?_) | fail)
  . have hlt : i < 20 := by simp at h; omega
    refine wiv (opP (opN i)) rfl rfl rfl rfl rfl ⟨by omega, by show (i : Int) < 20; omega⟩ (Ig hlt) ?_
    by_cases hik : i < k
    . have hn := hno i hik
      unfold Hb at hn
      repeat' (first | refine rl0 ?_ | refine rs0 (fun h => ?_) (fun h => ?_) | fail)
      . have hb : Ba l a (opN i).2.2.2.2 = false := by simp_all
        refine wcb (id := 0) (Aj hl hb) rfl rfl rfl rfl rfl rfl rfl rfl (by repeat (first | exact Ad | refine Aa (Ab _) ?_)) rfl ?_
        repeat' (first | refine rl0 ?_ | refine rs0 (fun h => ?_) (fun h => ?_) | fail)
        exact ⟨i + 1, by omega, by omega, (by repeat (first | exact Ag | refine Ac rfl ?_)), rfl, rfl, rfl, Nat.le_refl _, Nat.le_refl _⟩
      . exact ⟨i + 1, by omega, by omega, (by repeat (first | exact Ag | refine Ac rfl ?_)), rfl, rfl, rfl, Nat.le_refl _, Nat.le_refl _⟩
      . exact ⟨i + 1, by omega, by omega, (by repeat (first | exact Ag | refine Ac rfl ?_)), rfl, rfl, rfl, Nat.le_refl _, Nat.le_refl _⟩
    . obtain rfl : i = k := by omega
      unfold Hb at hk1
      simp only [Bool.and_eq_true] at hk1
      obtain ⟨e1, e2, hb⟩ := hk1
      repeat' (first | refine rl0 ?_ | refine rs0 (fun h => ?_) (fun h => ?_) | fail)
      . refine wcb (id := 0) (As hl hb) rfl rfl rfl rfl rfl rfl rfl rfl (by repeat (first | exact Ad | refine Aa (Ab _) ?_)) rfl ?_
        repeat' (first | refine rl0 ?_ | refine rs0 (fun h => ?_) (fun h => ?_) | fail)
        rfl
      . exfalso; simp_all
      . exfalso; simp_all
  . exfalso; simp at h; omega
end Go.Proofs.YtiledamgmppcmaaGreatDoor
namespace Go.Proofs.YtiledamgmppcmaaGreatDoor
open Go.RowKit
theorem Bu {p : PRes} {f : Ex -> Nat -> PRes} (h : p.bad = true) : p.go f = .no p.at' := if_pos h
theorem Cu {p : PRes} {f : Ex -> Nat -> PRes} (h : p.bad = false) : p.go f = f p.x p.at' := if_neg (by rw [h]; simp)
theorem E3 {l : List TkZ} {a : Nat} {s : ByteArray} {f : Nat -> PRes} (h : Ba l a s = false) : Ct l a s f = .no a := if_neg (by rw [h]; simp)
theorem E4 {l : List TkZ} {a : Nat} {s : ByteArray} {f : Nat -> PRes} (h : Ba l a s = true) : Ct l a s f = f (a + 1) := if_pos h
def Gs (f : Nat) (args : List PV) (l : List TkZ) (a : Nat) (r : PRes) : Prop := An f args (pxS l a) (bif r.bad then .panic Fv else .ret (exP r.x)) (pxS l r.at')
theorem Gs.ok {f : Nat} {args : List PV} {l : List TkZ} {a : Nat} {r : PRes} (h : Gs f args l a r) (hb : r.bad = false) : An f args (pxS l a) (.ret (exP r.x)) (pxS l r.at') := by
  unfold Gs at h; rw [hb] at h; exact h
theorem Gs.no {f : Nat} {args : List PV} {l : List TkZ} {a : Nat} {r : PRes} (h : Gs f args l a r) (hb : r.bad = true) : An f args (pxS l a) (.panic Fv) (pxS l r.at') := by
  unfold Gs at h; rw [hb] at h; exact h
theorem Qe {f : Nat} {args : List PV} {l : List TkZ} {a : Nat} {r : PRes} (h0 : r.bad = false -> An f args (pxS l a) (.ret (exP r.x)) (pxS l r.at')) (h1 : r.bad = true -> An f args (pxS l a) (.panic Fv) (pxS l r.at')) : Gs f args l a r := by
  unfold Gs
  cases hb : r.bad with
  | false => exact h0 hb
  | true => exact h1 hb
@[reducible] def exR (x : Ex) : List DV := [.v (.int .i64 x.op), .v (.int .i64 x.n), .v (.string x.name), .sl 4 (Eb x.args)]
theorem J0 (x : Ex) : exD x = exR x := by cases x; rfl
theorem Ox (op : Int) (x : Ex) : An 114 [Ai op, .d (.sl 4 [exR x])] ⟨[], []⟩ (.ret (exP (nd op [x]))) ⟨[], []⟩ := by
  have h := D0 op [x]
  simp only [Eb, J0] at h; exact h
theorem Lj (op : Int) (x y : Ex) : An 114 [Ai op, .d (.sl 4 [exR x, exR y])] ⟨[], []⟩ (.ret (exP (nd op [x, y]))) ⟨[], []⟩ := by
  have h := D0 op [x, y]
  simp only [Eb, J0] at h; exact h
theorem V0 (op : Int) (x y z : Ex) : An 114 [Ai op, .d (.sl 4 [exR x, exR y, exR z])] ⟨[], []⟩ (.ret (exP (nd op [x, y, z]))) ⟨[], []⟩ := by
  have h := D0 op [x, y, z]
  simp only [Eb, J0] at h; exact h
def fnM (m : Nat) : Nat := if m = 0 then 71 else if m = 3 then 188 else if m = 7 then 189 else 112
def Aia (m : Nat) : List PV := if m = 0 \/ m = 3 \/ m = 7 then [.ptr 0 0] else [.ptr 0 0, Ai m]
def Q6 (l : List TkZ) (n : Nat) : Prop := ∀ m a, m <= 7 -> m ≠ 4 -> a <= l.length -> 8 * (l.length - a) + A5 m <= n -> Gs (fnM m) (Aia m) l a (pE l n m a)
section
variable {l : List TkZ} {n : Nat} (hl : l.length <= 9223372036854775806) (ih : Q6 l n)
include hl ih
theorem Ql {a : Nat} (ha : a <= l.length) (hn : 8 * (l.length - a) + 8 <= n + 1) : Gs 71 [.ptr 0 0] l a (pE l (n + 1) 0 a) := by
  rw [pE]
  cases h : Ba l a kIf with
  | false =>
    rw [if_neg (by simp)]
    have hc : Gs 112 [.ptr 0 0, Ai 1] l a (pE l n 1 a) := ih 1 a (by omega) (by omega) ha (by simp [A5]; omega)
    refine Qe (fun hb => ?_) fun hb => ?_
    . refine Af Tryz.func71 rfl rfl (Nat.le_of_ble_eq_true rfl) rfl (Nat.le_refl _) ?_
      repeat' (first | refine rl0 ?_ | refine rs0 (fun h => ?_) (fun h => ?_) | fail)
      refine wb1 0 (Aj hl h) ?_
      repeat' (first | refine rl0 ?_ | refine rs0 (fun h => ?_) (fun h => ?_) | fail)
      refine wb1 0 (hc.ok hb) ?_
      repeat' (first | refine rl0 ?_ | refine rs0 (fun h => ?_) (fun h => ?_) | fail)
      rfl
    . refine A1 Tryz.func71 rfl rfl (Nat.le_of_ble_eq_true rfl) ?_
      repeat' (first | refine rl0 ?_ | refine rs0 (fun h => ?_) (fun h => ?_) | fail)
      refine wb1 0 (Aj hl h) ?_
      repeat' (first | refine rl0 ?_ | refine rs0 (fun h => ?_) (fun h => ?_) | fail)
      refine Jy 0 (hc.no hb) ?_
      exact ⟨rfl, rfl, rfl⟩
  | true =>
    rw [if_pos rfl]
    have h0 := Bs h
    have g1 : Gs 71 [.ptr 0 0] l (a + 1) (pE l n 0 (a + 1)) := ih 0 (a + 1) (by omega) (by omega) h0 (by simp [A5]; omega)
    have p1 := Gc l n 0 (a + 1)
    have p2 := Dg l n 0 (a + 1) h0
    generalize pE l n 0 (a + 1) = p at g1 p1 p2 |-
    cases hb : p.bad with
    | true =>
      rw [Bu hb]
      show An _ _ _ (.panic Fv) (pxS l p.at')
      refine A1 Tryz.func71 rfl rfl (Nat.le_of_ble_eq_true rfl) ?_
      repeat' (first | refine rl0 ?_ | refine rs0 (fun h => ?_) (fun h => ?_) | fail)
      refine wb1 0 (As hl h) ?_
      repeat' (first | refine rl0 ?_ | refine rs0 (fun h => ?_) (fun h => ?_) | fail)
      refine Jy 0 (g1.no hb) ?_
      exact ⟨rfl, rfl, rfl⟩
    | false =>
    rw [Cu hb]
    have g1 := g1.ok hb
    cases ht : Ba l p.at' Kq with
    | false =>
      rw [E3 ht]
      show An _ _ _ (.panic Fv) (pxS l p.at')
      refine A1 Tryz.func71 rfl rfl (Nat.le_of_ble_eq_true rfl) ?_
      repeat' (first | refine rl0 ?_ | refine rs0 (fun h => ?_) (fun h => ?_) | fail)
      refine wb1 0 (As hl h) ?_
      repeat' (first | refine rl0 ?_ | refine rs0 (fun h => ?_) (fun h => ?_) | fail)
      refine wb1 0 g1 ?_
      repeat' (first | refine rl0 ?_ | refine rs0 (fun h => ?_) (fun h => ?_) | fail)
      refine Jy 0 (Fg hl ht) ?_
      exact ⟨rfl, rfl, rfl⟩
    | true =>
    rw [E4 ht]
    have h1 := Bs ht
    have g2 : Gs 71 [.ptr 0 0] l (p.at' + 1) (pE l n 0 (p.at' + 1)) := ih 0 (p.at' + 1) (by omega) (by omega) h1 (by simp [A5]; omega)
    have p3 := Gc l n 0 (p.at' + 1)
    have p4 := Dg l n 0 (p.at' + 1) h1
    generalize pE l n 0 (p.at' + 1) = q at g2 p3 p4 |-
    cases hc : q.bad with
    | true =>
      rw [Bu hc]
      show An _ _ _ (.panic Fv) (pxS l q.at')
      refine A1 Tryz.func71 rfl rfl (Nat.le_of_ble_eq_true rfl) ?_
      repeat' (first | refine rl0 ?_ | refine rs0 (fun h => ?_) (fun h => ?_) | fail)
      refine wb1 0 (As hl h) ?_
      repeat' (first | refine rl0 ?_ | refine rs0 (fun h => ?_) (fun h => ?_) | fail)
      refine wb1 0 g1 ?_
      repeat' (first | refine rl0 ?_ | refine rs0 (fun h => ?_) (fun h => ?_) | fail)
      refine wb1 0 (C1 hl ht) ?_
      repeat' (first | refine rl0 ?_ | refine rs0 (fun h => ?_) (fun h => ?_) | fail)
      refine Jy 0 (g2.no hc) ?_
      exact ⟨rfl, rfl, rfl⟩
    | false =>
    rw [Cu hc]
    have g2 := g2.ok hc
    cases he : Ba l q.at' Kp with
    | false =>
      rw [E3 he]
      show An _ _ _ (.panic Fv) (pxS l q.at')
      refine A1 Tryz.func71 rfl rfl (Nat.le_of_ble_eq_true rfl) ?_
      repeat' (first | refine rl0 ?_ | refine rs0 (fun h => ?_) (fun h => ?_) | fail)
      refine wb1 0 (As hl h) ?_
      repeat' (first | refine rl0 ?_ | refine rs0 (fun h => ?_) (fun h => ?_) | fail)
      refine wb1 0 g1 ?_
      repeat' (first | refine rl0 ?_ | refine rs0 (fun h => ?_) (fun h => ?_) | fail)
      refine wb1 0 (C1 hl ht) ?_
      repeat' (first | refine rl0 ?_ | refine rs0 (fun h => ?_) (fun h => ?_) | fail)
      refine wb1 0 g2 ?_
      repeat' (first | refine rl0 ?_ | refine rs0 (fun h => ?_) (fun h => ?_) | fail)
      refine Jy 0 (Fg hl he) ?_
      exact ⟨rfl, rfl, rfl⟩
    | true =>
    rw [E4 he]
    have h2 := Bs he
    have g3 : Gs 71 [.ptr 0 0] l (q.at' + 1) (pE l n 0 (q.at' + 1)) := ih 0 (q.at' + 1) (by omega) (by omega) h2 (by simp [A5]; omega)
    generalize pE l n 0 (q.at' + 1) = r at g3 |-
    cases hd : r.bad with
    | true =>
      rw [Bu hd]
      show An _ _ _ (.panic Fv) (pxS l r.at')
      refine A1 Tryz.func71 rfl rfl (Nat.le_of_ble_eq_true rfl) ?_
      repeat' (first | refine rl0 ?_ | refine rs0 (fun h => ?_) (fun h => ?_) | fail)
      refine wb1 0 (As hl h) ?_
      repeat' (first | refine rl0 ?_ | refine rs0 (fun h => ?_) (fun h => ?_) | fail)
      refine wb1 0 g1 ?_
      repeat' (first | refine rl0 ?_ | refine rs0 (fun h => ?_) (fun h => ?_) | fail)
      refine wb1 0 (C1 hl ht) ?_
      repeat' (first | refine rl0 ?_ | refine rs0 (fun h => ?_) (fun h => ?_) | fail)
      refine wb1 0 g2 ?_
      repeat' (first | refine rl0 ?_ | refine rs0 (fun h => ?_) (fun h => ?_) | fail)
      refine wb1 0 (C1 hl he) ?_
      repeat' (first | refine rl2 ?_ | refine rs2 (fun h => ?_) (fun h => ?_) | fail)
      refine Dx (fun k => Nat.beq k 3 || Nat.beq k 6) [2, 3] [] rfl (by kernel_rfl) ?_
      repeat' (first | refine rl6 ?_ | refine rs6 (fun h => ?_) (fun h => ?_) | fail)
      refine Ado 0 (g3.no hd) ?_
      exact ⟨rfl, rfl, rfl⟩
    | false =>
    rw [Cu hd]
    show An _ _ _ (.ret (exP (nd 19 [p.x, q.x, r.x]))) (pxS l r.at')
    refine Af Tryz.func71 rfl rfl (Nat.le_of_ble_eq_true rfl) rfl (Nat.le_refl _) ?_
    repeat' (first | refine rl0 ?_ | refine rs0 (fun h => ?_) (fun h => ?_) | fail)
    refine wb1 0 (As hl h) ?_
    repeat' (first | refine rl0 ?_ | refine rs0 (fun h => ?_) (fun h => ?_) | fail)
    refine wb1 0 g1 ?_
    repeat' (first | refine rl0 ?_ | refine rs0 (fun h => ?_) (fun h => ?_) | fail)
    refine wb1 0 (C1 hl ht) ?_
    repeat' (first | refine rl0 ?_ | refine rs0 (fun h => ?_) (fun h => ?_) | fail)
    refine wb1 0 g2 ?_
    repeat' (first | refine rl0 ?_ | refine rs0 (fun h => ?_) (fun h => ?_) | fail)
    refine wb1 0 (C1 hl he) ?_
    repeat' (first | refine rl2 ?_ | refine rs2 (fun h => ?_) (fun h => ?_) | fail)
    refine Dx (fun k => Nat.beq k 3 || Nat.beq k 6) [2, 3] [] rfl (by kernel_rfl) ?_
    repeat' (first | refine rl6 ?_ | refine rs6 (fun h => ?_) (fun h => ?_) | fail)
    refine wb1a 0 (g3.ok hd) ?_
    repeat' (first | refine rl6 ?_ | refine rs6 (fun h => ?_) (fun h => ?_) | fail)
    refine wp1a (V0 19 p.x q.x r.x) ?_
    repeat' (first | refine rl6 ?_ | refine rs6 (fun h => ?_) (fun h => ?_) | fail)
    repeat' (first | refine rl0 ?_ | refine rs0 (fun h => ?_) (fun h => ?_) | fail)
    rfl
end
end Go.Proofs.YtiledamgmppcmaaGreatDoor
namespace Go.Proofs.YtiledamgmppcmaaGreatDoor
open Go.RowKit
theorem Fh {l : List TkZ} {n : Nat} (ih : Q6 l n) {m a : Nat} (hm : m = 1 \/ m = 2 \/ m = 5 \/ m = 6) (ha : a <= l.length) (hn : 8 * (l.length - a) + A5 (Ao m) <= n) : Gs 152 [.ptr 0 0, Ai m] l a (pE l n (Ao m) a) := by
  have h := ih (Ao m) a (by rcases hm with rfl | rfl | rfl | rfl <;> decide) (by rcases hm with rfl | rfl | rfl | rfl <;> decide) ha hn
  rcases hm with rfl | rfl | rfl | rfl
  all_goals
    refine Qe (fun hb => ?_) fun hb => ?_
    . refine Af Tryz.func152 rfl rfl (Nat.le_of_ble_eq_true rfl) rfl (Nat.le_refl _) ?_
      repeat' (first | refine rl0 ?_ | refine rs0 (fun h => ?_) (fun h => ?_) | fail)
      refine wb1 0 (h.ok hb) ?_
      repeat' (first | refine rl0 ?_ | refine rs0 (fun h => ?_) (fun h => ?_) | fail)
      rfl
    . refine A1 Tryz.func152 rfl rfl (Nat.le_of_ble_eq_true rfl) ?_
      repeat' (first | refine rl0 ?_ | refine rs0 (fun h => ?_) (fun h => ?_) | fail)
      refine Jy 0 (h.no hb) ?_
      exact ⟨rfl, rfl, rfl⟩
theorem Mf {m : Nat} (hm : m = 1 \/ m = 2 \/ m = 5 \/ m = 6) : lvM m := by unfold lvM; omega
theorem Hd {m : Nat} (hm : m = 1 \/ m = 2 \/ m = 5 \/ m = 6) : A5 (Ao m) + 1 <= A5 m /\ A5 (Ao m) <= 6 /\ 2 <= A5 (Ao m) := by rcases hm with rfl | rfl | rfl | rfl <;> decide
@[reducible] def chS (l : List TkZ) (i : Ex × Nat × Nat) : PS := ⟨[[.d (.sl 3 (l.map tkR)), Ai i.2.1], D4, (exP i.1).parts], []⟩
@[reducible] def chL (m : Nat) (_ : Ex × Nat × Nat) : List (Nat × PV) := [(0, .ptr 0 0), (1, Ai m), (4, .ptr 1 0), (5, .ptr 2 0)]
theorem M2 {l : List TkZ} {n : Nat} (hl : l.length <= 9223372036854775806) (ih : ∀ k, k <= n -> Q6 l k) {m a : Nat} (hm : m = 1 \/ m = 2 \/ m = 5 \/ m = 6) (ha : a <= l.length) (hn : 8 * (l.length - a) + A5 m <= n + 1) : Gs 112 [.ptr 0 0, Ai m] l a (pE l (n + 1) m a) := by
  rw [Dz l n m a (by omega) (by omega) (by omega)]
  obtain ⟨r1, r2, r3⟩ := Hd hm
  have g1 := Fh (ih n (Nat.le_refl _)) hm ha (by omega)
  have p1 := Gc l n (Ao m) a
  have p2 := Dg l n (Ao m) a ha
  generalize pE l n (Ao m) a = p at g1 p1 p2 |-
  cases hb : p.bad with
  | true =>
    rw [Bu hb]
    show An _ _ _ (.panic Fv) (pxS l p.at')
    refine A1 Tryz.func112 rfl rfl (Nat.le_of_ble_eq_true rfl) ?_
    repeat' (first | refine rl0 ?_ | refine rs0 (fun h => ?_) (fun h => ?_) | fail)
    refine Jy 0 (g1.no hb) ?_
    exact ⟨rfl, rfl, rfl⟩
  | false =>
  rw [Cu hb]
  have g1 := g1.ok hb
  obtain ⟨R, hR⟩ : ∃ R, pR l n m p.x p.at' = R := ⟨_, rfl⟩
  rw [hR]
  refine Qe (fun hr => ?_) fun hr => ?_
  . refine Af Tryz.func112 rfl rfl (Nat.le_of_ble_eq_true rfl) rfl (Nat.le_refl _) ?_
    repeat' (first | refine rl0 ?_ | refine rs0 (fun h => ?_) (fun h => ?_) | fail)
    refine wb1 0 g1 ?_
    repeat' (first | refine rl0 ?_ | refine rs0 (fun h => ?_) (fun h => ?_) | fail)
    refine Bt (ι := Ex × Nat × Nat) (ok := fun i => i.2.1 <= l.length /\ 8 * (l.length - i.2.1) + 1 <= i.2.2 /\ i.2.2 <= n /\ pR l i.2.2 m i.1 i.2.1 = R) (L := chL m) (Sx := chS l) (μ := fun i => i.2.2) (p.x, p.at', n) ⟨p2, by show 8 * (l.length - p.at') + 1 <= n; omega, Nat.le_refl _, hR⟩ (by repeat (first | exact Ag | refine Ac rfl ?_)) rfl ?_
    rintro ⟨x, b, k⟩ ⟨hbl, hk, hkn, hx⟩
    simp only at hbl hk hkn hx
    obtain ⟨k, rfl⟩ : ∃ j, k = j + 1 := ⟨k - 1, by omega⟩
    rw [pR] at hx
    cases ho : Bd l b m with
    | none =>
      rw [ho] at hx
      subst hx
      repeat' (first | refine rl0 ?_ | refine rs0 (fun h => ?_) (fun h => ?_) | fail)
      refine wb1 0 (Ky (Mf hm) hl ho) ?_
      repeat' (first | refine rl0 ?_ | refine rs0 (fun h => ?_) (fun h => ?_) | fail)
      rfl
    | some op =>
      rw [ho] at hx
      simp only at hx
      have h1 := B0 ho
      have g2 := Fh (ih k (by omega)) hm (a := b + 1) h1 (by omega)
      have p3 := Gc l k (Ao m) (b + 1)
      have p4 := Dg l k (Ao m) (b + 1) h1
      generalize pE l k (Ao m) (b + 1) = y at g2 p3 p4 hx
      cases hy : y.bad with
      | true => rw [Bu hy] at hx; subst hx; cases hr
      | false =>
      rw [Cu hy] at hx
      repeat' (first | refine rl0 ?_ | refine rs0 (fun h => ?_) (fun h => ?_) | fail)
      refine wb1 0 (Db (Mf hm) hl ho) ?_
      repeat' (first | refine rl2 ?_ | refine rs2 (fun h => ?_) (fun h => ?_) | fail)
      refine b0 (fun k => Nat.beq k 4 || Nat.beq k 7) [(1, [2])] ?_
      repeat' (first | refine rl7 ?_ | refine rs7 (fun h => ?_) (fun h => ?_) | fail)
      refine Z3 0 (g2.ok hy) ?_
      repeat' (first | refine rl7 ?_ | refine rs7 (fun h => ?_) (fun h => ?_) | fail)
      refine P7 (Lj op x y.x) ?_
      repeat' (first | refine rl7 ?_ | refine rs7 (fun h => ?_) (fun h => ?_) | fail)
      repeat' (first | refine rl0 ?_ | refine rs0 (fun h => ?_) (fun h => ?_) | fail)
      exact ⟨(nd op [x, y.x], y.at', k), ⟨p4, by show 8 * (l.length - y.at') + 1 <= k; omega, by show k <= n; omega, hx⟩, Nat.lt_succ_self k, (by repeat (first | exact Ag | refine Ac rfl ?_)), rfl⟩
  . refine A1 Tryz.func112 rfl rfl (Nat.le_of_ble_eq_true rfl) ?_
    repeat' (first | refine rl0 ?_ | refine rs0 (fun h => ?_) (fun h => ?_) | fail)
    refine wb1 0 g1 ?_
    repeat' (first | refine rl0 ?_ | refine rs0 (fun h => ?_) (fun h => ?_) | fail)
    refine Bt (ι := Ex × Nat × Nat) (ok := fun i => i.2.1 <= l.length /\ 8 * (l.length - i.2.1) + 1 <= i.2.2 /\ i.2.2 <= n /\ pR l i.2.2 m i.1 i.2.1 = R) (L := chL m) (Sx := chS l) (μ := fun i => i.2.2) (p.x, p.at', n) ⟨p2, by show 8 * (l.length - p.at') + 1 <= n; omega, Nat.le_refl _, hR⟩ (by repeat (first | exact Ag | refine Ac rfl ?_)) rfl ?_
    rintro ⟨x, b, k⟩ ⟨hbl, hk, hkn, hx⟩
    simp only at hbl hk hkn hx
    obtain ⟨k, rfl⟩ : ∃ j, k = j + 1 := ⟨k - 1, by omega⟩
    rw [pR] at hx
    cases ho : Bd l b m with
    | none =>
      rw [ho] at hx
      subst hx
      cases hr
    | some op =>
      rw [ho] at hx
      simp only at hx
      have h1 := B0 ho
      have g2 := Fh (ih k (by omega)) hm (a := b + 1) h1 (by omega)
      have p3 := Gc l k (Ao m) (b + 1)
      have p4 := Dg l k (Ao m) (b + 1) h1
      generalize pE l k (Ao m) (b + 1) = y at g2 p3 p4 hx
      cases hy : y.bad with
      | true =>
        rw [Bu hy] at hx; subst hx
        repeat' (first | refine rl0 ?_ | refine rs0 (fun h => ?_) (fun h => ?_) | fail)
        refine wb1 0 (Db (Mf hm) hl ho) ?_
        repeat' (first | refine rl2 ?_ | refine rs2 (fun h => ?_) (fun h => ?_) | fail)
        refine b0 (fun k => Nat.beq k 4 || Nat.beq k 7) [(1, [2])] ?_
        repeat' (first | refine rl7 ?_ | refine rs7 (fun h => ?_) (fun h => ?_) | fail)
        refine Un 0 (g2.no hy) ?_
        exact ⟨rfl, rfl, rfl⟩
      | false =>
      rw [Cu hy] at hx
      repeat' (first | refine rl0 ?_ | refine rs0 (fun h => ?_) (fun h => ?_) | fail)
      refine wb1 0 (Db (Mf hm) hl ho) ?_
      repeat' (first | refine rl2 ?_ | refine rs2 (fun h => ?_) (fun h => ?_) | fail)
      refine b0 (fun k => Nat.beq k 4 || Nat.beq k 7) [(1, [2])] ?_
      repeat' (first | refine rl7 ?_ | refine rs7 (fun h => ?_) (fun h => ?_) | fail)
      refine Z3 0 (g2.ok hy) ?_
      repeat' (first | refine rl7 ?_ | refine rs7 (fun h => ?_) (fun h => ?_) | fail)
      refine P7 (Lj op x y.x) ?_
      repeat' (first | refine rl7 ?_ | refine rs7 (fun h => ?_) (fun h => ?_) | fail)
      repeat' (first | refine rl0 ?_ | refine rs0 (fun h => ?_) (fun h => ?_) | fail)
      exact ⟨(nd op [x, y.x], y.at', k), ⟨p4, by show 8 * (l.length - y.at') + 1 <= k; omega, by show k <= n; omega, hx⟩, Nat.lt_succ_self k, (by repeat (first | exact Ag | refine Ac rfl ?_)), rfl⟩
theorem Vj {l : List TkZ} {n : Nat} (hl : l.length <= 9223372036854775806) (ih : Q6 l n) {a : Nat} (ha : a <= l.length) (hn : 8 * (l.length - a) + 5 <= n + 1) : Gs 188 [.ptr 0 0] l a (pE l (n + 1) 3 a) := by
  rw [pE]
  cases h : Ba l a Ab6 with
  | true =>
    rw [if_pos rfl]
    have h0 := Bs h
    have g1 : Gs 188 [.ptr 0 0] l (a + 1) (pE l n 3 (a + 1)) := ih 3 (a + 1) (by omega) (by omega) h0 (by simp [A5]; omega)
    generalize pE l n 3 (a + 1) = p at g1 |-
    cases hb : p.bad with
    | true =>
      rw [Bu hb]
      show An _ _ _ (.panic Fv) (pxS l p.at')
      refine A1 Tryz.func188 rfl rfl (Nat.le_of_ble_eq_true rfl) ?_
      repeat' (first | refine rl0 ?_ | refine rs0 (fun h => ?_) (fun h => ?_) | fail)
      refine wb1 0 (As hl h) ?_
      repeat' (first | refine rl0 ?_ | refine rs0 (fun h => ?_) (fun h => ?_) | fail)
      refine Jy 0 (g1.no hb) ?_
      exact ⟨rfl, rfl, rfl⟩
    | false =>
    rw [Cu hb]
    show An _ _ _ (.ret (exP (nd 6 [p.x]))) (pxS l p.at')
    refine Af Tryz.func188 rfl rfl (Nat.le_of_ble_eq_true rfl) rfl (Nat.le_refl _) ?_
    repeat' (first | refine rl0 ?_ | refine rs0 (fun h => ?_) (fun h => ?_) | fail)
    refine wb1 0 (As hl h) ?_
    repeat' (first | refine rl0 ?_ | refine rs0 (fun h => ?_) (fun h => ?_) | fail)
    refine wb1 0 (g1.ok hb) ?_
    repeat' (first | refine rl0 ?_ | refine rs0 (fun h => ?_) (fun h => ?_) | fail)
    refine wp1 (Ox 6 p.x) ?_
    repeat' (first | refine rl0 ?_ | refine rs0 (fun h => ?_) (fun h => ?_) | fail)
    rfl
  | false =>
    rw [if_neg (by simp)]
    have g1 : Gs 112 [.ptr 0 0, Ai 5] l a (pE l n 5 a) := ih 5 a (by omega) (by omega) ha (by simp [A5]; omega)
    have p1 := Gc l n 5 a
    have p2 := Dg l n 5 a ha
    generalize pE l n 5 a = p at g1 p1 p2 |-
    cases hb : p.bad with
    | true =>
      rw [Bu hb]
      show An _ _ _ (.panic Fv) (pxS l p.at')
      refine A1 Tryz.func188 rfl rfl (Nat.le_of_ble_eq_true rfl) ?_
      repeat' (first | refine rl0 ?_ | refine rs0 (fun h => ?_) (fun h => ?_) | fail)
      refine wb1 0 (Aj hl h) ?_
      repeat' (first | refine rl0 ?_ | refine rs0 (fun h => ?_) (fun h => ?_) | fail)
      refine Jy 0 (g1.no hb) ?_
      exact ⟨rfl, rfl, rfl⟩
    | false =>
    rw [Cu hb]
    have g1 := g1.ok hb
    have h4 : lvM 4 := by unfold lvM; omega
    cases ho : Bd l p.at' 4 with
    | none =>
      show An _ _ _ (.ret (exP p.x)) (pxS l p.at')
      refine Af Tryz.func188 rfl rfl (Nat.le_of_ble_eq_true rfl) rfl (Nat.le_refl _) ?_
      repeat' (first | refine rl0 ?_ | refine rs0 (fun h => ?_) (fun h => ?_) | fail)
      refine wb1 0 (Aj hl h) ?_
      repeat' (first | refine rl0 ?_ | refine rs0 (fun h => ?_) (fun h => ?_) | fail)
      refine wb1 0 g1 ?_
      repeat' (first | refine rl0 ?_ | refine rs0 (fun h => ?_) (fun h => ?_) | fail)
      refine wb1 0 (Ky h4 hl ho) ?_
      repeat' (first | refine rl0 ?_ | refine rs0 (fun h => ?_) (fun h => ?_) | fail)
      rfl
    | some op =>
      have h1 := B0 ho
      have g2 : Gs 112 [.ptr 0 0, Ai 5] l (p.at' + 1) (pE l n 5 (p.at' + 1)) := ih 5 (p.at' + 1) (by omega) (by omega) h1 (by simp [A5]; omega)
      show Gs _ _ l a ((pE l n 5 (p.at' + 1)).go fun y c => .yes (nd op [p.x, y]) c)
      generalize pE l n 5 (p.at' + 1) = y at g2 |-
      cases hy : y.bad with
      | true =>
        rw [Bu hy]
        show An _ _ _ (.panic Fv) (pxS l y.at')
        refine A1 Tryz.func188 rfl rfl (Nat.le_of_ble_eq_true rfl) ?_
        repeat' (first | refine rl0 ?_ | refine rs0 (fun h => ?_) (fun h => ?_) | fail)
        refine wb1 0 (Aj hl h) ?_
        repeat' (first | refine rl0 ?_ | refine rs0 (fun h => ?_) (fun h => ?_) | fail)
        refine wb1 0 g1 ?_
        repeat' (first | refine rl0 ?_ | refine rs0 (fun h => ?_) (fun h => ?_) | fail)
        refine wb1 0 (Db h4 hl ho) ?_
        repeat' (first | refine rl2 ?_ | refine rs2 (fun h => ?_) (fun h => ?_) | fail)
        refine b0 (fun k => Nat.beq k 3 || Nat.beq k 6) [(1, [2])] ?_
        repeat' (first | refine rl7 ?_ | refine rs7 (fun h => ?_) (fun h => ?_) | fail)
        refine Un 0 (g2.no hy) ?_
        exact ⟨rfl, rfl, rfl⟩
      | false =>
      rw [Cu hy]
      show An _ _ _ (.ret (exP (nd op [p.x, y.x]))) (pxS l y.at')
      refine Af Tryz.func188 rfl rfl (Nat.le_of_ble_eq_true rfl) rfl (Nat.le_refl _) ?_
      repeat' (first | refine rl0 ?_ | refine rs0 (fun h => ?_) (fun h => ?_) | fail)
      refine wb1 0 (Aj hl h) ?_
      repeat' (first | refine rl0 ?_ | refine rs0 (fun h => ?_) (fun h => ?_) | fail)
      refine wb1 0 g1 ?_
      repeat' (first | refine rl0 ?_ | refine rs0 (fun h => ?_) (fun h => ?_) | fail)
      refine wb1 0 (Db h4 hl ho) ?_
      repeat' (first | refine rl2 ?_ | refine rs2 (fun h => ?_) (fun h => ?_) | fail)
      refine b0 (fun k => Nat.beq k 3 || Nat.beq k 6) [(1, [2])] ?_
      repeat' (first | refine rl7 ?_ | refine rs7 (fun h => ?_) (fun h => ?_) | fail)
      refine Z3 0 (g2.ok hy) ?_
      repeat' (first | refine rl7 ?_ | refine rs7 (fun h => ?_) (fun h => ?_) | fail)
      refine P7 (Lj op p.x y.x) ?_
      repeat' (first | refine rl7 ?_ | refine rs7 (fun h => ?_) (fun h => ?_) | fail)
      repeat' (first | refine rl0 ?_ | refine rs0 (fun h => ?_) (fun h => ?_) | fail)
      rfl
end Go.Proofs.YtiledamgmppcmaaGreatDoor
namespace Go.Proofs.YtiledamgmppcmaaGreatDoor
open Go.RowKit
def P5 (l : List TkZ) : Prop := ∀ t ∈ l, t.1 = 3 -> t.2.1.size <= 18 /\ ∃ n, Lib.atoi t.2.1.data.toList = some n
theorem Vb (op : Int) : An 114 [Ai op, .d (.v (.slice none 0 0))] ⟨[], []⟩ (.ret (exP (nd op []))) ⟨[], []⟩ := Lu (D0 op []) (Aa (Ab _) (Aa Bo Ad))
theorem K9 {l : List TkZ} {n : Nat} (hl : l.length <= 9223372036854775806) (hnum : P5 l) (ih : Q6 l n) {a : Nat} (ha : a <= l.length) (hn : 8 * (l.length - a) + 2 <= n + 1) : Gs 189 [.ptr 0 0] l a (pE l (n + 1) 7 a) := by
  rw [pE]
  cases h : Ba l a Ms with
  | true =>
    rw [if_pos rfl]
    have h0 := Bs h
    have g1 : Gs 189 [.ptr 0 0] l (a + 1) (pE l n 7 (a + 1)) := ih 7 (a + 1) (by omega) (by omega) h0 (by simp [A5]; omega)
    generalize pE l n 7 (a + 1) = p at g1 |-
    cases hb : p.bad with
    | true =>
      rw [Bu hb]
      show An _ _ _ (.panic Fv) (pxS l p.at')
      refine A1 Tryz.func189 rfl rfl (Nat.le_of_ble_eq_true rfl) ?_
      repeat' (first | refine rl0 ?_ | refine rs0 (fun h => ?_) (fun h => ?_) | fail)
      refine wb1 0 (As hl h) ?_
      repeat' (first | refine rl0 ?_ | refine rs0 (fun h => ?_) (fun h => ?_) | fail)
      refine Jy 0 (g1.no hb) ?_
      exact ⟨rfl, rfl, rfl⟩
    | false =>
    rw [Cu hb]
    show An _ _ _ (.ret (exP (nd 5 [p.x]))) (pxS l p.at')
    refine Af Tryz.func189 rfl rfl (Nat.le_of_ble_eq_true rfl) rfl (Nat.le_refl _) ?_
    repeat' (first | refine rl0 ?_ | refine rs0 (fun h => ?_) (fun h => ?_) | fail)
    refine wb1 0 (As hl h) ?_
    repeat' (first | refine rl0 ?_ | refine rs0 (fun h => ?_) (fun h => ?_) | fail)
    refine wb1 0 (g1.ok hb) ?_
    repeat' (first | refine rl0 ?_ | refine rs0 (fun h => ?_) (fun h => ?_) | fail)
    refine wp1 (Ox 5 p.x) ?_
    repeat' (first | refine rl0 ?_ | refine rs0 (fun h => ?_) (fun h => ?_) | fail)
    rfl
  | false =>
  rw [if_neg (by simp)]
  cases h2 : Ba l a Oc with
  | true =>
    rw [if_pos rfl]
    show An _ _ _ (.ret (exP (nd 3 []))) (pxS l (a + 1))
    refine Af Tryz.func189 rfl rfl (Nat.le_of_ble_eq_true rfl) rfl (Nat.le_refl _) ?_
    repeat' (first | refine rl0 ?_ | refine rs0 (fun h => ?_) (fun h => ?_) | fail)
    refine wb1 0 (Aj hl h) ?_
    repeat' (first | refine rl0 ?_ | refine rs0 (fun h => ?_) (fun h => ?_) | fail)
    refine wb1 0 (As hl h2) ?_
    repeat' (first | refine rl0 ?_ | refine rs0 (fun h => ?_) (fun h => ?_) | fail)
    refine D3 (Vb 3) rfl rfl rfl rfl rfl (by repeat (first | exact Ad | refine Aa (Ab _) ?_)) ?_
    repeat' (first | refine rl0 ?_ | refine rs0 (fun h => ?_) (fun h => ?_) | fail)
    rfl
  | false =>
  rw [if_neg (by simp)]
  cases h3 : Ba l a Jg with
  | true =>
    rw [if_pos rfl]
    show An _ _ _ (.ret (exP (nd 4 []))) (pxS l (a + 1))
    refine Af Tryz.func189 rfl rfl (Nat.le_of_ble_eq_true rfl) rfl (Nat.le_refl _) ?_
    repeat' (first | refine rl0 ?_ | refine rs0 (fun h => ?_) (fun h => ?_) | fail)
    refine wb1 0 (Aj hl h) ?_
    repeat' (first | refine rl0 ?_ | refine rs0 (fun h => ?_) (fun h => ?_) | fail)
    refine wb1 0 (Aj hl h2) ?_
    repeat' (first | refine rl0 ?_ | refine rs0 (fun h => ?_) (fun h => ?_) | fail)
    refine wb1 0 (As hl h3) ?_
    repeat' (first | refine rl0 ?_ | refine rs0 (fun h => ?_) (fun h => ?_) | fail)
    refine D3 (Vb 4) rfl rfl rfl rfl rfl (by repeat (first | exact Ad | refine Aa (Ab _) ?_)) ?_
    repeat' (first | refine rl0 ?_ | refine rs0 (fun h => ?_) (fun h => ?_) | fail)
    rfl
  | false =>
  rw [if_neg (by simp)]
  cases h4 : Ba l a Ik with
  | true =>
    rw [if_pos rfl]
    have h0 := Bs h4
    have g1 : Gs 71 [.ptr 0 0] l (a + 1) (pE l n 0 (a + 1)) := ih 0 (a + 1) (by omega) (by omega) h0 (by simp [A5]; omega)
    generalize pE l n 0 (a + 1) = p at g1 |-
    cases hb : p.bad with
    | true =>
      rw [Bu hb]
      show An _ _ _ (.panic Fv) (pxS l p.at')
      refine A1 Tryz.func189 rfl rfl (Nat.le_of_ble_eq_true rfl) ?_
      repeat' (first | refine rl0 ?_ | refine rs0 (fun h => ?_) (fun h => ?_) | fail)
      refine wb1 0 (Aj hl h) ?_
      repeat' (first | refine rl0 ?_ | refine rs0 (fun h => ?_) (fun h => ?_) | fail)
      refine wb1 0 (Aj hl h2) ?_
      repeat' (first | refine rl0 ?_ | refine rs0 (fun h => ?_) (fun h => ?_) | fail)
      refine wb1 0 (Aj hl h3) ?_
      repeat' (first | refine rl0 ?_ | refine rs0 (fun h => ?_) (fun h => ?_) | fail)
      refine wb1 0 (As hl h4) ?_
      repeat' (first | refine rl0 ?_ | refine rs0 (fun h => ?_) (fun h => ?_) | fail)
      refine Jy 0 (g1.no hb) ?_
      exact ⟨rfl, rfl, rfl⟩
    | false =>
    rw [Cu hb]
    have g1 := g1.ok hb
    cases h5 : Ba l p.at' Hl with
    | false =>
      rw [E3 h5]
      show An _ _ _ (.panic Fv) (pxS l p.at')
      refine A1 Tryz.func189 rfl rfl (Nat.le_of_ble_eq_true rfl) ?_
      repeat' (first | refine rl0 ?_ | refine rs0 (fun h => ?_) (fun h => ?_) | fail)
      refine wb1 0 (Aj hl h) ?_
      repeat' (first | refine rl0 ?_ | refine rs0 (fun h => ?_) (fun h => ?_) | fail)
      refine wb1 0 (Aj hl h2) ?_
      repeat' (first | refine rl0 ?_ | refine rs0 (fun h => ?_) (fun h => ?_) | fail)
      refine wb1 0 (Aj hl h3) ?_
      repeat' (first | refine rl0 ?_ | refine rs0 (fun h => ?_) (fun h => ?_) | fail)
      refine wb1 0 (As hl h4) ?_
      repeat' (first | refine rl0 ?_ | refine rs0 (fun h => ?_) (fun h => ?_) | fail)
      refine wb1 0 g1 ?_
      repeat' (first | refine rl0 ?_ | refine rs0 (fun h => ?_) (fun h => ?_) | fail)
      refine Jy 0 (Fg hl h5) ?_
      exact ⟨rfl, rfl, rfl⟩
    | true =>
    rw [E4 h5]
    show An _ _ _ (.ret (exP p.x)) (pxS l (p.at' + 1))
    refine Af Tryz.func189 rfl rfl (Nat.le_of_ble_eq_true rfl) rfl (Nat.le_refl _) ?_
    repeat' (first | refine rl0 ?_ | refine rs0 (fun h => ?_) (fun h => ?_) | fail)
    refine wb1 0 (Aj hl h) ?_
    repeat' (first | refine rl0 ?_ | refine rs0 (fun h => ?_) (fun h => ?_) | fail)
    refine wb1 0 (Aj hl h2) ?_
    repeat' (first | refine rl0 ?_ | refine rs0 (fun h => ?_) (fun h => ?_) | fail)
    refine wb1 0 (Aj hl h3) ?_
    repeat' (first | refine rl0 ?_ | refine rs0 (fun h => ?_) (fun h => ?_) | fail)
    refine wb1 0 (As hl h4) ?_
    repeat' (first | refine rl0 ?_ | refine rs0 (fun h => ?_) (fun h => ?_) | fail)
    refine wb1 0 g1 ?_
    repeat' (first | refine rl0 ?_ | refine rs0 (fun h => ?_) (fun h => ?_) | fail)
    refine wb1 0 (C1 hl h5) ?_
    repeat' (first | refine rl0 ?_ | refine rs0 (fun h => ?_) (fun h => ?_) | fail)
    rfl
  | false =>
  rw [if_neg (by simp)]
  unfold Jm
  cases ht : l[a]? with
  | none =>
    have h5 : l.length <= a := List.getElem?_eq_none_iff.1 ht
    show An _ _ _ (.panic Fv) (pxS l a)
    refine A1 Tryz.func189 rfl rfl (Nat.le_of_ble_eq_true rfl) ?_
    repeat' (first | refine rl0 ?_ | refine rs0 (fun h => ?_) (fun h => ?_) | fail)
    refine wb1 0 (Aj hl h) ?_
    repeat' (first | refine rl0 ?_ | refine rs0 (fun h => ?_) (fun h => ?_) | fail)
    refine wb1 0 (Aj hl h2) ?_
    repeat' (first | refine rl0 ?_ | refine rs0 (fun h => ?_) (fun h => ?_) | fail)
    refine wb1 0 (Aj hl h3) ?_
    repeat' (first | refine rl0 ?_ | refine rs0 (fun h => ?_) (fun h => ?_) | fail)
    refine wb1 0 (Aj hl h4) ?_
    repeat' (first | refine rl0 ?_ | refine rs0 (fun h => ?_) (fun h => ?_) | fail)
    . refine Gu rfl (G0 rfl rfl) ?_
      exact ⟨rfl, rfl, rfl⟩
    . exfalso; simp at h; omega
  | some t =>
    have h5 : a < l.length := (List.getElem?_eq_some_iff.1 ht).1
    show Gs _ _ l a (Gf t a)
    unfold Gf
    by_cases e1 : t.1 = 1
    . rw [if_pos e1]
      show An _ _ _ (.ret (exP (.mk 2 0 t.2.1 []))) (pxS l (a + 1))
      refine A4 (r' := .agg [Ai 2, Ai 0, By t.2.1, .d (.v (.slice none 0 0))]) ?_ (by repeat' (first | exact Ad | refine Aa ?_ ?_ | exact Bo | exact Ab _ | refine A9 ?_ | refine Bh ?_))
      refine Af Tryz.func189 rfl rfl (Nat.le_of_ble_eq_true rfl) rfl (Nat.le_refl _) ?_
      repeat' (first | refine rl0 ?_ | refine rs0 (fun h => ?_) (fun h => ?_) | fail)
      refine wb1 0 (Aj hl h) ?_
      repeat' (first | refine rl0 ?_ | refine rs0 (fun h => ?_) (fun h => ?_) | fail)
      refine wb1 0 (Aj hl h2) ?_
      repeat' (first | refine rl0 ?_ | refine rs0 (fun h => ?_) (fun h => ?_) | fail)
      refine wb1 0 (Aj hl h3) ?_
      repeat' (first | refine rl0 ?_ | refine rs0 (fun h => ?_) (fun h => ?_) | fail)
      refine wb1 0 (Aj hl h4) ?_
      repeat' (first | refine rl2 ?_ | refine rs2 (fun h => ?_) (fun h => ?_) | fail)
      refine q9 ?_
      repeat' (first | refine rl2 ?_ | refine rs2 (fun h => ?_) (fun h => ?_) | fail)
      . exfalso; simp at h; omega
      refine b0 (fun k => Nat.beq k 12 || Nat.beq k 13) [(4, [0]), (9, [0])] ?_
      repeat' (first | refine rl7 ?_ | refine rs7 (fun h => ?_) (fun h => ?_) | fail)
      refine Tk _ (B4 ht) (by omega) ?_
      repeat' (first | refine rl7 ?_ | refine rs7 (fun h => ?_) (fun h => ?_) | fail)
      . repeat' (first | refine rl0 ?_ | refine rs0 (fun h => ?_) (fun h => ?_) | fail)
        . rfl
        all_goals (exfalso; simp_all)
    . rw [if_neg e1]
      by_cases e3 : t.1 = 3
      . rw [if_pos e3]
        obtain ⟨hs, k, hk⟩ := hnum t (List.mem_of_getElem? ht) e3
        have hno : Lv t.2.1 = k := by unfold Lv; rw [hk]; rfl
        rw [hno]
        show An _ _ _ (.ret (exP (.mk 1 k ⟨#[]⟩ []))) (pxS l (a + 1))
        refine A4 (r' := .agg [Ai 1, Ai k, By ⟨#[]⟩, .d (.v (.slice none 0 0))]) ?_ (by repeat' (first | exact Ad | refine Aa ?_ ?_ | exact Bo | exact Ab _ | refine A9 ?_ | refine Bh ?_))
        refine Af Tryz.func189 rfl rfl (Nat.le_of_ble_eq_true rfl) rfl (Nat.le_refl _) ?_
        repeat' (first | refine rl0 ?_ | refine rs0 (fun h => ?_) (fun h => ?_) | fail)
        refine wb1 0 (Aj hl h) ?_
        repeat' (first | refine rl0 ?_ | refine rs0 (fun h => ?_) (fun h => ?_) | fail)
        refine wb1 0 (Aj hl h2) ?_
        repeat' (first | refine rl0 ?_ | refine rs0 (fun h => ?_) (fun h => ?_) | fail)
        refine wb1 0 (Aj hl h3) ?_
        repeat' (first | refine rl0 ?_ | refine rs0 (fun h => ?_) (fun h => ?_) | fail)
        refine wb1 0 (Aj hl h4) ?_
        repeat' (first | refine rl2 ?_ | refine rs2 (fun h => ?_) (fun h => ?_) | fail)
        refine q9 ?_
        repeat' (first | refine rl2 ?_ | refine rs2 (fun h => ?_) (fun h => ?_) | fail)
        . exfalso; simp at h; omega
        refine b0 (fun k => Nat.beq k 12 || Nat.beq k 13) [(4, [0]), (9, [0])] ?_
        repeat' (first | refine rl7 ?_ | refine rs7 (fun h => ?_) (fun h => ?_) | fail)
        refine Tk _ (B4 ht) (by omega) ?_
        repeat' (first | refine rl7 ?_ | refine rs7 (fun h => ?_) (fun h => ?_) | fail)
        . repeat' (first | refine rl0 ?_ | refine rs0 (fun h => ?_) (fun h => ?_) | fail)
          . exfalso; simp_all
          . refine wp1 (V4 t.2.1 k hs hk) ?_
            repeat' (first | refine rl0 ?_ | refine rs0 (fun h => ?_) (fun h => ?_) | fail)
            rfl
          . exfalso; simp_all
      . rw [if_neg e3]
        show An _ _ _ (.panic Fv) (pxS l a)
        refine A1 Tryz.func189 rfl rfl (Nat.le_of_ble_eq_true rfl) ?_
        repeat' (first | refine rl0 ?_ | refine rs0 (fun h => ?_) (fun h => ?_) | fail)
        refine wb1 0 (Aj hl h) ?_
        repeat' (first | refine rl0 ?_ | refine rs0 (fun h => ?_) (fun h => ?_) | fail)
        refine wb1 0 (Aj hl h2) ?_
        repeat' (first | refine rl0 ?_ | refine rs0 (fun h => ?_) (fun h => ?_) | fail)
        refine wb1 0 (Aj hl h3) ?_
        repeat' (first | refine rl0 ?_ | refine rs0 (fun h => ?_) (fun h => ?_) | fail)
        refine wb1 0 (Aj hl h4) ?_
        repeat' (first | refine rl2 ?_ | refine rs2 (fun h => ?_) (fun h => ?_) | fail)
        refine q9 ?_
        repeat' (first | refine rl2 ?_ | refine rs2 (fun h => ?_) (fun h => ?_) | fail)
        . exfalso; simp at h; omega
        refine b0 (fun k => Nat.beq k 12 || Nat.beq k 13) [(4, [0]), (9, [0])] ?_
        repeat' (first | refine rl7 ?_ | refine rs7 (fun h => ?_) (fun h => ?_) | fail)
        refine Tk _ (B4 ht) (by omega) ?_
        repeat' (first | refine rl7 ?_ | refine rs7 (fun h => ?_) (fun h => ?_) | fail)
        . repeat' (first | refine rl0 ?_ | refine rs0 (fun h => ?_) (fun h => ?_) | fail)
          . exfalso; simp_all
          . exfalso; simp_all
          . refine Gu rfl (G0 rfl rfl) ?_
            exact ⟨rfl, rfl, rfl⟩
end Go.Proofs.YtiledamgmppcmaaGreatDoor
